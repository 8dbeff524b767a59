/- Several texts in one. -/
import Derived.Test.YtkapkbiccppldaaGreatDoorGJ
import Derived.Deep.RegionLaw
import Derived.Test.YtkapkbiccppldaaGreatDoorGI
/- The document's slabs: Take of a free slab. -/
namespace Go.Proofs.YtkapkbiccppldaaGreatDoor
set_option linter.unusedVariables false
set_option linter.unusedSimpArgs false
open Go.RowKit

theorem step_append1 {ops : Array Oper} {o : Oper} {a : Act} {w : World} {K : Act → World → Prop} {Q : Exit → Act → World → Prop} {E : Prop}
    (hg : o.guard = none) (s x : Operand) (ho : o.op = .call { callee := .builtin .append, args := #[s, x], argTypes := #[42, 42] }) (hty : o.type = 42)
    (base : Nat) (v : Value) (l : List Nat) (hs : a.eval s = v) (y : Nat) (W0 : World) (hW : w = W0.alloc (.cells #[.int .i64 y] 3)) (hown : W0.ownsRow base 3 1 v l.length (intC l)) (hx : a.eval x = .slice (some ⟨W0.heap.size, 0, none⟩) 1 1)
    (n : Nat) (hn : l.length = n) (hl : n ≤ 1048576) (hbase : base ≤ W0.heap.size)
    (h : ∀ g cap w', w'.ownsRow base 3 1 (.slice (some ⟨g, 0, none⟩) (n + 1) cap) (l ++ [y]).length (intC (l ++ [y])) → Fr (ownS v) W0 w' → K (a.put o.dst (.slice (some ⟨g, 0, none⟩) (n + 1) cap)) w') : if Region.wanted o (yielded ops a.tmps) = true then Oper.wp Tryz.prog o a w K Q else E := by
  have hw : Region.wanted o (yielded ops a.tmps) = true := by simp [Region.wanted, hg]
  rw [if_pos hw]
  subst hW hn
  obtain ⟨i0, hi, hz0, hz1, hz2⟩ := info_parts info_int
  obtain ⟨v', w', hrun, h2, h3, _, h5⟩ := run_append_own_at (P := Tryz.prog) (W0.alloc (.cells #[.int .i64 y] 3)) base 42 42 3 i0 (.int .i64 0) 1 8 Tryz.underlying42 hi hz0 hz1 hz2 rfl (by decide) v l.length (intC l) (hown.alloc _) ⟨W0.heap.size, 0, none⟩ 1 1 [.int .i64 y] (by simp) (cells_new1 _ _ _) (by simp [Value.oneCell']) (by unfold maxLen; omega) (by omega) (by simp; omega)
  have h2' : w'.ownsRow base 3 1 v' (l ++ [y]).length (intC (l ++ [y])) := by rw [List.length_append, List.length_singleton, show intC (l ++ [y]) = intC l ++ [.int .i64 y] by simp [intC]]; exact h2
  obtain ⟨g, cap, rfl⟩ := ownsRow_succ h2
  have hK' := h g cap w' h2' (fr_grown h3)
  unfold Oper.wp execOp
  simp only [ho, hty, resolve, invoke, builtin, Sem.run_bind, Sem.run_pure, Result.andThen_ok, List.map_toArray, List.map_cons, List.map_nil, hs, hx, hrun]
  exact hK'
theorem cutU {G P : World → Nat → Nat → World → Prop} {H : Prop} (f : (∀ u g c W, P u g c W → G u g c W) → H) (g : ∀ u g c W, P u g c W → G u g c W) : H := f g
/-- The places of a slab's blocks, from the first on. -/
def adL (b m c k : Nat) : List Nat := (List.range k).map (adrB b m c)
theorem adL_len (b m c k : Nat) : (adL b m c k).length = k := by simp [adL]
theorem adL_succ (b m c k : Nat) : adL b m c (k + 1) = adL b m c k ++ [b + 1024 * m + csz c * k] := by simp [adL, List.range_succ, adrB]
section
variable {w : World} {p gl a s : Nat} {B : List Nat} {S : SS}
set_option maxRecDepth 100000 in
set_option maxHeartbeats 4000000 in
theorem xTake_full (h : RS w p gl a s B S) (c : Nat) (hc : 1 ≤ c ∧ c ≤ 9) (hb : ∀ k, k < a → S.inn k ≠ (c : Int)) (hb0 : ∀ k, k < a → S.cls k ≠ 0) : Calls Tryz.prog 19 #[.pointer (some ⟨p, 0, none⟩), .int .i64 c] w (TakeX w p gl a s B (0, 5, S)) := by
  have hs8 := fun W => xsize8 (w := W) c
  obtain ⟨c1, c2, c3, _⟩ := csz_tab c hc.1 hc.2
  rw [cszZ_nat c hc.2] at hs8
  have b0 : ((csz c : Int) == 0) = false := by simp <;> omega
  have b0' : (csz c = 0) = False := by simp; omega
  have H0 := Lib.hid h
  have ha := h.cfg.a2
  unfold TakeX
  have hno : ∀ k, k < a → S.cls k ≠ c ∨ (S.cls k = c ∧ S.fr k = []) := fun k hk => by
    by_cases h1 : S.cls k = c
    · by_cases h2 : S.fr k = []
      · exact .inr ⟨h1, h2⟩
      · exact absurd (inn_c hc.1 h1 h2) (hb k hk)
    · exact .inl h1
  clear c1 c2 c3 hb h
  generalize csz c = n at *
  go_enter Tryz.func19, Tryz.ntmps19
  go_wp2_with fail
  with_reducible refine (hs8 _).mono ?_
  rintro e w' ⟨rfl, rfl⟩
  go_wp2_with fail
  clear hs8
  go_loopw [6] (fun i W => ∃ j : Nat, j ≤ a ∧ i = .int .i64 j ∧ Fr [] w' W) (fun i _ => a - (intOf i).toNat)
  case atStart => exact ⟨0, by omega, rfl, Fr.refl _ _⟩
  case round =>
    obtain ⟨j, hj, rfl, hF'⟩ := hrel
    have HF := Lib.hid hF'
    have hg2 : (0 : Int) ≤ j := by omega
    have w1 : IntKind.i64.wrap ((j : Int) + 1) = (j : Int) + 1 := IntWalk.i64_in _ (by omega)
    by_cases hlt : j < a
    · obtain ⟨df, cf, dl, cl, rF, rL, hcc⟩ := H0.out.rowi j hlt
      obtain ⟨d0, d1, d2, d3, d4⟩ := hcc _ hF'
      have hg3 : (j : Int) < a := by omega
      have b1 : decide ((j : Int) < a) = true := by simp; omega
      have b1' : decide (j < a) = true := by simp; omega
      clear rF rL hcc hF'
      rcases hno j hlt with h1 | ⟨h1, h2⟩
      · have e1 : ((S.cls j : Int) == c) = false := by simp; omega
        have e1' : (S.cls j = c) = False := by simp; exact h1
        clear h1
        go_wp2_with fail
        go_roundw
        case rel => exact ⟨j + 1, by omega, by go_num, HF.out⟩
        case measure => simp [intOf]; omega
      · rw [h1] at d0
        rw [h2] at d1
        simp only [List.length_nil] at d1
        clear h1 h2
        go_wp2_with fail
        go_roundw
        case rel => exact ⟨j + 1, by omega, by go_num, HF.out⟩
        case measure => simp [intOf]; omega
    · obtain rfl : j = a := by omega
      have b1 : decide ((j : Int) < j) = false := by simp
      have b1' : decide (j < j) = false := by simp
      have d3 := (H0.out.fr0 hF').st.cell 2
      simp at d3
      clear hF' hno
      go_wp2_with fail
      go_loopw [7] (fun i W => ∃ j' : Nat, j' ≤ j ∧ i = .int .i64 j' ∧ Fr [] w' W) (fun i _ => j - (intOf i).toNat)
      case atStart => exact ⟨0, by omega, rfl, HF.out⟩
      case round =>
        obtain ⟨k, hk, rfl, hF'⟩ := hrel
        have HF2 := Lib.hid hF'
        have hk2 : (0 : Int) ≤ k := by omega
        have w2 : IntKind.i64.wrap ((k : Int) + 1) = (k : Int) + 1 := IntWalk.i64_in _ (by omega)
        clear d3
        by_cases hlk : k < j
        · obtain ⟨df, cf, dl, cl, rF, rL, hcc⟩ := H0.out.rowi k hlk
          obtain ⟨d0, d1, d2, d3, d4⟩ := hcc _ hF'
          have hk3 : (k : Int) < j := by omega
          have b3 : decide ((k : Int) < j) = true := by simp; omega
          have b3' : decide (k < j) = true := by simp; omega
          have h0 := hb0 k hlk
          have e1 : ((S.cls k : Int) == 0) = false := by simp; omega
          have e1' : (S.cls k = 0) = False := by simp; exact h0
          clear rF rL hcc hF' h0
          go_wp2_with fail
          go_roundw
          case rel => exact ⟨k + 1, by omega, by go_num, HF2.out⟩
          case measure => simp [intOf]; omega
        · obtain rfl : k = j := by omega
          have d3 := (H0.out.fr0 hF').st.cell 2
          simp at d3
          have HX := Lib.hid (H0.out.self hF')
          clear hF'
          go_wp2_with fail
          go_ret2
          exact ⟨rfl, HX.out⟩
end
end Go.Proofs.YtkapkbiccppldaaGreatDoor

/- The document's slabs: Take of a free slab. -/
namespace Go.Proofs.YtkapkbiccppldaaGreatDoor
set_option linter.unusedVariables false
set_option linter.unusedSimpArgs false
open Go.RowKit

theorem set3_drew (w : World) (g o : Nat) (a b c : Value) : w.drew.setCells g o [a, b, c] = (((w.setCell ⟨g, o, none⟩ a).setCell ⟨g, o + 1, none⟩ b).setCell ⟨g, o + 2, none⟩ c).drew := by
  first | rfl | (simp [World.setCells]; done) | (simp only [World.setCells, List.foldl, World.setCell_drew]; done)
section
variable {w : World} {p gl a s : Nat} {B : List Nat} {S : SS}
set_option maxRecDepth 100000 in
set_option maxHeartbeats 8000000 in
theorem xTake_carve (h : RS w p gl a s B S) (hl : ∀ i, i < a → (S.fr i).length ≤ 1000 ∧ (S.lv i).length ≤ 1000) (c : Nat) (hc : 1 ≤ c ∧ c ≤ 9) (hb : ∀ k, k < a → S.inn k ≠ (c : Int)) (m : Nat) (hm : m < a) (hm0 : S.cls m = 0) (hb0 : ∀ k, k < m → S.cls k ≠ 0) : Calls Tryz.prog 19 #[.pointer (some ⟨p, 0, none⟩), .int .i64 c] w (TakeX w p gl a s B (popS (carvS (lbase a s) S m c) m)) := by
  have hs8 := fun W => xsize8 (w := W) c
  obtain ⟨c1, c2, c3, _⟩ := csz_tab c hc.1 hc.2
  rw [cszZ_nat c hc.2] at hs8
  have b0 : ((csz c : Int) == 0) = false := by simp <;> omega
  have b0' : (csz c = 0) = False := by simp; omega
  have hcsz : csz c ≤ 512 ∧ nbk c ≤ 32 := by
    obtain ⟨d1, d2, d3, d4, d5, _⟩ := csz_tab c hc.1 hc.2
    omega
  have hnb0 : 0 < nbk c := by
    obtain ⟨d1, d2, d3, d4, d5, _⟩ := csz_tab c hc.1 hc.2
    omega
  have hb8 := Lib.hid (fun W => xblocks8 (w := W) c)
  rw [nbkZ_nat c hc.2] at hb8
  obtain ⟨x, F, hA⟩ : ∃ x F, (List.range (nbk c)).map (adrB (lbase a s) m c) = x :: F := List.exists_cons_of_ne_nil (by simp; omega)
  have hS1 : carvS (lbase a s) S m c = S.set m c (x :: F) [] := by unfold carvS; rw [hA]
  have hFl : F.length + 1 = nbk c := by
    have := congrArg List.length hA
    simpa using this.symm
  generalize hS' : carvS (lbase a s) S m c = S1 at *
  have hfr : S1.fr m = x :: F := by rw [hS1]; unfold SS.set; dsimp only; rw [up_same]
  have hlv : S1.lv m = [] := by rw [hS1]; unfold SS.set; dsimp only; rw [up_same]
  have HT := Lib.hid (fun W B1 (hW : RS W p gl a s B1 S1) => xtake hW m x F hm hfr (by omega) (by rw [hlv]; simp))
  have HS1 := Lib.hid hS1
  have HA := Lib.hid hA
  have HFR := Lib.hid hfr
  clear hS1 hA hS' hlv
  have HSi := Lib.hid (fun W => xslabat9 (w := W) a s m h.cfg hm)
  have hlb := lbase_le a s h.cfg
  have H0 := Lib.hid h
  have ha := h.cfg.a2
  unfold TakeX popS
  rw [hfr]
  simp only [List.headD_cons, List.tail_cons]
  clear hfr
  have hno : ∀ k, k < a → S.cls k ≠ c ∨ (S.cls k = c ∧ S.fr k = []) := fun k hk => by
    by_cases h1 : S.cls k = c
    · by_cases h2 : S.fr k = []
      · exact .inr ⟨h1, h2⟩
      · exact absurd (inn_c hc.1 h1 h2) (hb k hk)
    · exact .inl h1
  clear c1 c2 c3 hb h
  generalize hnn : csz c = n at *
  have HNN := Lib.hid hnn
  have HS8 := Lib.hid hs8
  clear hnn
  go_enter Tryz.func19, Tryz.ntmps19
  go_wp2_with fail
  with_reducible refine (hs8 _).mono ?_
  rintro e w' ⟨rfl, rfl⟩
  go_wp2_with fail
  clear hs8
  go_loopw [6] (fun i W => ∃ j : Nat, j ≤ a ∧ i = .int .i64 j ∧ Fr [] w' W) (fun i _ => a - (intOf i).toNat)
  case atStart => exact ⟨0, by omega, rfl, Fr.refl _ _⟩
  case round =>
    obtain ⟨j, hj, rfl, hF'⟩ := hrel
    have HF := Lib.hid hF'
    have hg2 : (0 : Int) ≤ j := by omega
    have w1 : IntKind.i64.wrap ((j : Int) + 1) = (j : Int) + 1 := IntWalk.i64_in _ (by omega)
    by_cases hlt : j < a
    · obtain ⟨df, cf, dl, cl, rF, rL, hcc⟩ := H0.out.rowi j hlt
      obtain ⟨d0, d1, d2, d3, d4⟩ := hcc _ hF'
      have hg3 : (j : Int) < a := by omega
      have b1 : decide ((j : Int) < a) = true := by simp; omega
      have b1' : decide (j < a) = true := by simp; omega
      clear rF rL hcc hF'
      rcases hno j hlt with h1 | ⟨h1, h2⟩
      · have e1 : ((S.cls j : Int) == c) = false := by simp; omega
        have e1' : (S.cls j = c) = False := by simp; exact h1
        clear h1
        go_wp2_with fail
        go_roundw
        case rel => exact ⟨j + 1, by omega, by go_num, HF.out⟩
        case measure => simp [intOf]; omega
      · rw [h1] at d0
        rw [h2] at d1
        simp only [List.length_nil] at d1
        clear h1 h2
        go_wp2_with fail
        go_roundw
        case rel => exact ⟨j + 1, by omega, by go_num, HF.out⟩
        case measure => simp [intOf]; omega
    · obtain rfl : j = a := by omega
      have b1 : decide ((j : Int) < j) = false := by simp
      have b1' : decide (j < j) = false := by simp
      have d3 := (H0.out.fr0 hF').st.cell 2
      simp at d3
      clear hF' hno
      go_wp2_with fail
      go_loopw [7] (fun i W => ∃ j' : Nat, j' ≤ m ∧ i = .int .i64 j' ∧ Fr [] w' W) (fun i _ => m - (intOf i).toNat)
      case atStart => exact ⟨0, by omega, rfl, HF.out⟩
      case round =>
        obtain ⟨k, hk, rfl, hF'⟩ := hrel
        have HF2 := Lib.hid hF'
        have hk2 : (0 : Int) ≤ k := by omega
        have w2 : IntKind.i64.wrap ((k : Int) + 1) = (k : Int) + 1 := IntWalk.i64_in _ (by omega)
        have hkj : k < j := by omega
        clear d3
        obtain ⟨df, cf, dl, cl, rF, rL, hcc⟩ := H0.out.rowi k hkj
        obtain ⟨d0, d1, d2, d3, d4⟩ := hcc _ hF'
        have hk3 : (k : Int) < j := by omega
        have b3 : decide ((k : Int) < j) = true := by simp; omega
        have b3' : decide (k < j) = true := by simp; omega
        by_cases hlk : k < m
        · have h0 := hb0 k hlk
          have e1 : ((S.cls k : Int) == 0) = false := by simp; omega
          have e1' : (S.cls k = 0) = False := by simp; exact h0
          clear rF rL hcc hF' h0
          go_wp2_with fail
          go_roundw
          case rel => exact ⟨k + 1, by omega, by go_num, HF2.out⟩
          case measure => simp [intOf]; omega
        · obtain rfl : k = m := by omega
          rw [hm0] at d0
          clear rF rL hcc hF'
          go_wp2_with fail
          have BX := Lib.hid (Blk.new wr 56 #[.int .i64 c, .slice none 0 0, .slice none 0 0])
          have FX := Lib.hid (HF2.out.alloc (.cells #[.int .i64 c, .slice none 0 0, .slice none 0 0] 56))
          have hgB : wr.heap.size ∉ B := fun hm => by
            have h1 := H0.out.lt _ hm
            have h2 := HF2.out.size
            omega
          have hs3 : (wr.alloc (.cells #[.int .i64 c, .slice none 0 0, .slice none 0 0] 56)).heap.size = wr.heap.size + 1 := by simp
          have hgx0 : w'.heap.size ≤ wr.heap.size := HF2.out.size
          clear d0 d1 d2 d3 d4 HF HF2
          generalize wr.alloc (.cells #[.int .i64 c, .slice none 0 0, .slice none 0 0] 56) = w3 at *
          generalize wr.heap.size = gx at *
          generalize hNN : nbk c = N at *
          generalize hbb : lbase j s = b at *
          have HNB := Lib.hid hNN
          have HBB := Lib.hid hbb
          clear hNN hbb
          have HAL := Lib.hid (fun q => adL_len b k c q)
          have HAS := Lib.hid (fun q => adL_succ b k c q)
          go_loopw [9] (fun i W => ∃ q : Nat, q ≤ N ∧ i = .int .i64 q ∧ ∃ ad cap, Blk W gx 56 #[.int .i64 c, .slice ad q cap, .slice none 0 0] ∧ W.ownsRow w3.heap.size 3 1 (.slice ad q cap) (adL b k c q).length (intC (adL b k c q)) ∧ Fr [gx] w3 W) (fun i _ => N - (intOf i).toNat)
          case atStart => exact ⟨0, by omega, rfl, none, 0, BX.out, World.ownsRow_nil _ _ _ _, Fr.refl _ _⟩
          case round =>
            obtain ⟨q, hq, rfl, ad, cap, hB, hO, hF3⟩ := hrel
            have HB := Lib.hid hB
            have HO := Lib.hid hO
            have HF3 := Lib.hid hF3
            have HR := Lib.hid ((H0.out.fr0 FX.out).fr hF3 (fun k hk => by simp at hk; subst hk; exact hgB))
            have x1 := HR.out.st.cell 0
            have x2 := HR.out.st.cell 1
            have x3 := hB.cell 1
            have x4 := hB.frozen 1
            simp at x1 x2 x3
            clear hB hO hF3
            have u1 : IntKind.i64.wrap ((q : Int) + 1) = (q : Int) + 1 := IntWalk.i64_in _ (by omega)
            by_cases hlq : q < N
            · have v1 : decide ((q : Int) < N) = true := by simp; omega
              have v1' : decide (q < N) = true := by simp; omega
              have hnq : n * q ≤ 512 * 32 := Nat.mul_le_mul hcsz.1 (by omega)
              have v2 : IntKind.i64.wrap ((q : Int) * n) = ((n * q : Nat) : Int) := by
                rw [Nat.mul_comm n q, Int.natCast_mul]
                exact IntWalk.i64_in _ (by rw [← Int.natCast_mul, Nat.mul_comm]; omega)
              have v3 : IntKind.i64.wrap (((b + 1024 * k : Nat) : Int) + ((n * q : Nat) : Int)) = ((b + 1024 * k + n * q : Nat) : Int) := by
                rw [IntWalk.i64_in _ (by omega)]; omega
              go_wp2_with fail
              with_reducible refine (hb8.out _).mono ?_
              rintro e w' ⟨rfl, rfl⟩
              go_wp2_with fail
              have hsz : w3.heap.size ≤ w'.drew.heap.size := HF3.out.drew.size
              have hgx : gx ∉ ownS (.slice ad q cap) := fun hm => by
                have := (HO.out.lt _ (ownS_mem hm)).1
                omega
              have hgS : ∀ r ∈ ownS (.slice ad q cap), w3.heap.size ≤ r := fun r hm => (HO.out.lt _ (ownS_mem hm)).1
              have HGX := Lib.hid hgx
              have HGS := Lib.hid hgS
              have HLQ := Lib.hid (HAL.out q)
              have HAQ := Lib.hid (HAS.out q)
              rw [HNN.out] at HAQ
              generalize hl1 : adL b k c (q + 1) = l1 at *
              have HL1 := Lib.hid hl1
              clear hl1
              generalize adL b k c q = l at *
              have hq32 : q ≤ 1048576 := by omega
              clear hgx hgS hnq
              generalize n * q = nq at *
              generalize b + 1024 * k + nq = Y at *
              generalize b + 1024 * k = y0 at *
              apply cutU (P := fun u g c W => Fr [] w'.drew u ∧ W.ownsRow w3.heap.size 3 1 (.slice (some ⟨g, 0, none⟩) (q + 1) c) (l ++ [Y]).length (intC (l ++ [Y])) ∧ Fr (ownS (.slice ad q cap)) u W)
              · intro key
                go_region_law (first | (go_simp; with_reducible refine (HS8.out _).mono ?_; rintro e u8 ⟨rfl, he⟩; rw [he]; clear he u8; go_wp2_with fail) | (go_simp; with_reducible refine (HSi.out _).mono ?_; rintro e uS ⟨rfl, fS⟩; have BU := Lib.hid (HB.out.drew.fr fS (by simp)); have hsu : w3.heap.size ≤ uS.heap.size := Nat.le_trans hsz fS.size; have y3 := BU.out.cell 1; simp at y3; have y4 := fun o => (BU.out.alloc o).cell 1; simp at y4; go_wp2_with fail) | (refine step_append1 rfl (.tmp 74) (.tmp 86) rfl rfl w3.heap.size _ l (by simp [Act.eval, Act.put]) Y uS rfl (own_keep HO.out.drew fS) (by simp [Act.eval, Act.put]) q HLQ.out hq32 hsu ?_; intro g2 cap2 W2 hO2 hf2; have x5 := (BU.out.fr hf2 HGX.out).cell 1; have x6 := (BU.out.fr hf2 HGX.out).frozen 1; simp at x5))
                all_goals exact key _ _ _ _ ⟨fS, hO2, hf2⟩
              · intro u g c2 W2 hP
                obtain ⟨fS, hO2, hf2⟩ := hP
                have BU := (HB.out.drew.fr fS (by simp)).fr hf2 HGX.out
                have BN := Lib.hid (show Blk (W2.setCell ⟨gx, 1, none⟩ (.slice (some ⟨g, 0, none⟩) (q + 1) c2)) gx 56 #[.int .i64 c, .slice (some ⟨g, 0, none⟩) (q + 1) c2, .slice none 0 0] from BU.set 1 _)
                have ON := Lib.hid (own_set hO2 BU (by decide) 1 (.slice (some ⟨g, 0, none⟩) (q + 1) c2))
                have FN := Lib.hid (((HF3.out.drew.step fS (by simp)).step hf2 (fun r hr => .inr (HGS.out r hr))).setCell (p := ⟨gx, 1, none⟩) (.inl (by simp)) (.slice (some ⟨g, 0, none⟩) (q + 1) c2))
                clear fS hO2 hf2 BU
                go_wp2_with fail
                go_roundw
                case rel => exact ⟨q + 1, by omega, by go_num, _, _, BN.out, by rw [HL1.out, HAQ.out]; exact ON.out, FN.out⟩
                case measure => simp [intOf]; omega
            · obtain rfl : q = N := by omega
              have v1 : decide ((q : Int) < q) = false := by simp
              have v1' : decide (q < q) = false := by simp
              obtain ⟨ad', cap', e9, hv⟩ := own_row HO.out
              injection e9 with e91 e92 e93
              subst e91 e93
              obtain ⟨D, hD, hDb⟩ := hv.toD
              have hA2 : adL b k c q = x :: F := HA.out
              have hLq : (adL b k c q).length = q := HAL.out q
              obtain ⟨dF, cF, dL, cL, _, _, hcc⟩ := HR.out.rowi k hkj
              obtain ⟨t0, t1, t2, t3, t4⟩ := hcc _ (Fr.refl _ _)
              have z0 := HB.out.cell 0
              have z2 := HB.out.cell 2
              simp at z0 z2
              have HN2 := Lib.hid (fun W' (hW : RS W' p gl j s B S) (hd : RowW W' (D ++ B) ad cap (adL b k c q)) (hlt : ∀ r ∈ D ++ B, r < W'.heap.size) => by
                have := hW.set k c (adL b k c q) [] ad none cap 0 (D ++ B) (fun r hr => List.mem_append.2 (.inr hr)) hlt hd (RowW.nil _ _ _ _) hkj
                rw [hA2, ← HS1.out, ← hA2, hLq] at this
                simp only [List.length_nil] at this
                exact this)
              have HRD := Lib.hid (HN2.out _ HR.out.drew ((hD.fr (S := []) (Fr.refl _ _).drew (by simp)).mono (fun r hr => List.mem_append.2 (.inl hr))) (fun r hr => by
                rcases List.mem_append.1 hr with h | h
                · exact (hDb r h).2
                · exact HR.out.lt r h))
              have HDB := Lib.hid (fun r (hr : r ∈ D ++ B) => (show r ∈ B ∨ w3.heap.size ≤ r from by
                rcases List.mem_append.1 hr with h | h
                · exact .inr (hDb r h).1
                · exact .inl h))
              clear hD hDb hA2 hLq hcc hv e92
              go_wp2_with fail
              with_reducible refine (hb8.out _).mono ?_
              rintro e w' ⟨rfl, rfl⟩
              go_wp2_with fail
              apply cutG
              · intro key
                go_region
                all_goals exact key
              · have HRD2 := Lib.hid (show RS (((w'.setCell ⟨gl, k * 3, none⟩ (.int .i64 c)).setCell ⟨gl, k * 3 + 1, none⟩ (.slice ad q cap)).setCell ⟨gl, k * 3 + 2, none⟩ (.slice none 0 0)).drew p gl j s (D ++ B) S1 from by rw [← set3_drew]; exact HRD.out)
                have hFl2 := ((FX.out.nil (S := [gl])).step HF3.out (fun r hr => .inr (by simp at hr; subst hr; exact hgx0))).drew.setCells (b := gl) (.inl (by simp)) [.int .i64 c, .slice ad q cap, .slice none 0 0] (k * 3)
                rw [set3_drew] at hFl2
                have HX := Lib.hid (fun (S2 : SS) (w2 : World) (hx : RX _ w2 p gl j s (D ++ B) S2) => RX.trans HRD2.out (fun r hr => List.mem_append.2 (.inr hr)) (fun r hr => (HDB.out r hr).imp id (fun h => Nat.le_trans FX.out.size h)) hFl2 hx)
                have HTT := Lib.hid (HT.out _ _ HRD2.out)
                clear hFl2
                go_wp2_with fail
                with_reducible refine HTT.out.mono ?_
                rintro e w2 ⟨rfl, hx⟩
                have HX2 := Lib.hid (HX.out _ _ hx)
                clear hx
                go_wp2_with fail
                go_ret2
                exact ⟨rfl, HX2.out⟩
end
end Go.Proofs.YtkapkbiccppldaaGreatDoor

/- The document's slabs: Take, whole. -/
namespace Go.Proofs.YtkapkbiccppldaaGreatDoor
set_option linter.unusedVariables false
set_option linter.unusedSimpArgs false
open Go.RowKit

theorem least {P : Nat → Prop} [DecidablePred P] : ∀ n, (∃ m, m < n ∧ P m ∧ ∀ k, k < m → ¬ P k) ∨ ∀ k, k < n → ¬ P k
  | 0 => .inr (fun k hk => by omega)
  | n + 1 => by
    rcases least (P := P) n with ⟨m, h1, h2, h3⟩ | h
    · exact .inl ⟨m, by omega, h2, h3⟩
    · by_cases hn : P n
      · exact .inl ⟨n, by omega, hn, h⟩
      · refine .inr (fun k hk => ?_)
        by_cases e : k = n
        · subst e; exact hn
        · exact h k (by omega)
section
variable {w : World} {p gl a s : Nat} {B : List Nat} {S : SS}
theorem xTake (h : RS w p gl a s B S) (hl : ∀ i, i < a → (S.fr i).length ≤ 1000 ∧ (S.lv i).length ≤ 1000) (c : Int) : Calls Tryz.prog 19 #[.pointer (some ⟨p, 0, none⟩), .int .i64 c] w (TakeX w p gl a s B (takeS a (lbase a s) S c)) := by
  by_cases hc0 : cszZ c = 0
  · exact xTake_no h c hc0
  · have hc : 1 ≤ c ∧ c ≤ 9 := by
      unfold cszZ at hc0
      by_cases h1 : 1 ≤ c ∧ c ≤ 9
      · exact h1
      · rw [if_neg h1] at hc0; exact absurd rfl hc0
    obtain ⟨k, rfl⟩ : ∃ k : Nat, c = k := ⟨c.toNat, by omega⟩
    unfold takeS
    rw [if_neg hc0, Int.toNat_natCast]
    rcases least (P := fun i => S.inn i = (k : Int)) a with ⟨m, h1, h2, h3⟩ | h3
    · rw [lst_first h1 h2 h3, if_pos (by omega), Nat.add_sub_cancel]
      exact xTake_pop h hl k (by omega) m h1 h2 h3
    · rw [lst_none h3, if_neg (by omega)]
      rcases least (P := fun i => S.cls i = 0) a with ⟨m, g1, g2, g3⟩ | g3
      · rw [lst_first (c := 0) g1 (inn_0.2 g2) (fun q hq e => g3 q hq (inn_0.1 e)), if_pos (by omega), Nat.add_sub_cancel]
        exact xTake_carve h hl k (by omega) h3 m g1 g2 g3
      · rw [lst_none (c := 0) (fun q hq e => g3 q hq (inn_0.1 e)), if_neg (by omega)]
        exact xTake_full h k (by omega) h3 g3
end
end Go.Proofs.YtkapkbiccppldaaGreatDoor

/- The document's slabs: Is, Free, Room. -/
namespace Go.Proofs.YtkapkbiccppldaaGreatDoor
set_option linter.unusedVariables false
set_option linter.unusedSimpArgs false
open Go.RowKit

/-- Is a place that of a live block? -/
def isS (a : Nat) (S : SS) (x : Int) : Bool := (List.range a).any fun i => (S.lv i).any fun y => decide ((y : Int) = x)
theorem isS_true {a : Nat} {S : SS} {x : Int} : isS a S x = true ↔ ∃ i, i < a ∧ ∃ y, y ∈ S.lv i ∧ (y : Int) = x := by simp [isS]
theorem isS_false {a : Nat} {S : SS} {x : Int} : isS a S x = false ↔ ∀ i, i < a → ∀ y, y ∈ S.lv i → (y : Int) ≠ x := by simp [isS]
section
variable {w : World} {p gl a s : Nat} {B : List Nat} {S : SS}
set_option maxRecDepth 100000 in
set_option maxHeartbeats 2000000 in
theorem xIs (h : RS w p gl a s B S) (hl : ∀ i, i < a → (S.lv i).length ≤ 1000) (x : Int) : Calls Tryz.prog 116 #[.pointer (some ⟨p, 0, none⟩), .int .i64 x] w fun e w' => e = .returned (.bool (isS a S x)) ∧ Fr [] w w' := by
  have H0 := Lib.hid h
  have ha := h.cfg.a2
  have HT := Lib.hid (fun i (hi : i < a) k (hk : k < (S.lv i).length) (he : ((S.lv i)[k] : Int) = x) => isS_true.2 ⟨i, hi, _, List.getElem_mem hk, he⟩)
  have HF := Lib.hid (fun (hh : ∀ i, i < a → ∀ k (hk : k < (S.lv i).length), ((S.lv i)[k] : Int) ≠ x) => (isS_false (a := a) (S := S) (x := x)).2 (fun i hi y hy => by
    obtain ⟨k, hk, rfl⟩ := List.getElem_of_mem hy
    exact hh i hi k hk))
  generalize isS a S x = r at *
  clear h
  go_enter Tryz.func116, Tryz.ntmps116
  go_wp2_with fail
  go_loopw [5] (fun i W => ∃ j : Nat, j ≤ a ∧ i = .int .i64 j ∧ Fr [] w W ∧ ∀ i, i < j → ∀ k (hk : k < (S.lv i).length), ((S.lv i)[k] : Int) ≠ x) (fun i _ => a - (intOf i).toNat)
  case atStart => exact ⟨0, by omega, rfl, Fr.refl _ _, fun i hi => by omega⟩
  case round =>
    obtain ⟨j, hj, rfl, hF', hno⟩ := hrel
    have F1 := Lib.hid hF'
    have HN := Lib.hid hno
    have hg2 : (0 : Int) ≤ j := by omega
    have w1 : IntKind.i64.wrap ((j : Int) + 1) = (j : Int) + 1 := IntWalk.i64_in _ (by omega)
    clear hno hF'
    by_cases hlt : j < a
    · obtain ⟨df, cf, dl, cl, rF, rL, hcc⟩ := H0.out.rowi j hlt
      have hg3 : (j : Int) < a := by omega
      have b1 : decide ((j : Int) < a) = true := by simp; omega
      have b1' : decide (j < a) = true := by simp; omega
      have hlj := hl j hlt
      have HTj := Lib.hid (fun k hk => HT.out j hlt k hk)
      have HNj := Lib.hid (fun (hh : ∀ k (hk : k < (S.lv j).length), ((S.lv j)[k] : Int) ≠ x) => (show ∀ i, i < j + 1 → ∀ k (hk : k < (S.lv i).length), ((S.lv i)[k] : Int) ≠ x from fun i hi => by
        by_cases e : i = j
        · subst e; exact hh
        · exact HN.out i (by omega)))
      have hHCC := Lib.hid hcc
      obtain ⟨d0, d1, d2, d3, d4⟩ := hcc _ F1.out
      generalize hLe : S.lv j = L at *
      clear hcc rF hLe
      obtain ⟨n, hn⟩ : ∃ n, L.length = n := ⟨_, rfl⟩
      have HNN := Lib.hid hn
      rw [hn] at hlj d2
      simp only [hn] at hHCC
      clear hn
      go_wp2_with fail
      go_loopw [6] (fun i W => ∃ k : Nat, k ≤ n ∧ i = .int .i64 k ∧ Fr [] w W ∧ ∀ m (hm : m < L.length), m < k → (L[m] : Int) ≠ x) (fun i _ => n - (intOf i).toNat)
      case atStart => exact ⟨0, by omega, rfl, F1.out, fun m _ hm => by omega⟩
      case round =>
        clear d0 d1 d2 d3 d4
        obtain ⟨k, hk, rfl, hF2, hno2⟩ := hrel
        have F2 := Lib.hid hF2
        have HN2 := Lib.hid hno2
        obtain ⟨d0, d1, d2, d3, d4⟩ := hHCC.out _ hF2
        have hg4 : (0 : Int) ≤ k := by omega
        have w2 : IntKind.i64.wrap ((k : Int) + 1) = (k : Int) + 1 := IntWalk.i64_in _ (by omega)
        clear hno2
        by_cases hkt : k < n
        · have hkL : k < L.length := by have := HNN.out; omega
          obtain ⟨g, rfl, hgB, rg⟩ := rL (by omega)
          have cy := (rg.fr hF2 (by simp)).cell k hkL
          have hg5 : (k : Int) < n := by omega
          have b2 : decide ((k : Int) < n) = true := by simp; omega
          have b2' : decide (k < n) = true := by simp; omega
          have HTk := Lib.hid (fun he => HTj.out k hkL he)
          have HNk := Lib.hid (fun (he : (L[k] : Int) ≠ x) => (show ∀ m (hm : m < L.length), m < k + 1 → (L[m] : Int) ≠ x from fun m hm hmk => by
            by_cases e : m = k
            · subst e; exact he
            · exact HN2.out m hm (by omega)))
          generalize L[k] = y at *
          clear rg hF2
          by_cases he : (y : Int) = x
          · have b3 : ((y : Int) == x) = true := by simpa using he
            have hr := HTk.out he
            subst hr
            clear he
            go_wp2_with fail
            go_ret
            exact ⟨rfl, F2.out⟩
          · have b3 : ((y : Int) == x) = false := by simpa using he
            have HH := Lib.hid (HNk.out he)
            clear he
            go_wp2_with fail
            go_roundw
            case rel => exact ⟨k + 1, by omega, by go_num, F2.out, HH.out⟩
            case measure => simp [intOf]; omega
        · have b2 : decide ((k : Int) < n) = false := by simp; omega
          have b2' : decide (k < n) = false := by simp; omega
          have HH := Lib.hid (HNj.out (fun m hm => HN2.out m hm (by have := HNN.out; omega)))
          clear hkt
          go_wp2_with fail
          go_roundw
          case rel => exact ⟨j + 1, by omega, by go_num, F2.out, HH.out⟩
          case measure => simp [intOf]; omega
    · obtain rfl : j = a := by omega
      have b1 : decide ((j : Int) < j) = false := by simp
      have b1' : decide (j < j) = false := by simp
      obtain ⟨d0, d1, d2, d3⟩ := (show w.cell? ⟨p, 2, none⟩ = some (.slice (some ⟨gl, 0, none⟩) j j) ∧ True ∧ True ∧ True from ⟨H0.out.st.cell 2, trivial, trivial, trivial⟩)
      have d5 := (H0.out.fr0 F1.out).st.cell 2
      simp at d5
      have hr := HF.out HN.out
      subst hr
      go_wp2_with fail
      go_ret
      exact ⟨rfl, F1.out⟩
/-- How many free slabs, how much room. -/
def freeN (a : Nat) (S : SS) : Nat := ((List.range a).map fun i => if S.cls i = 0 then 1 else 0).sum
def roomN (a : Nat) (S : SS) (c : Int) : Nat := ((List.range a).map fun i => if (S.cls i : Int) = c ∧ 0 < c then (S.fr i).length else 0).sum
theorem freeN_succ (j : Nat) (S : SS) : freeN (j + 1) S = freeN j S + if S.cls j = 0 then 1 else 0 := by simp [freeN, List.range_succ]
theorem roomN_succ (j : Nat) (S : SS) (c : Int) : roomN (j + 1) S c = roomN j S c + if (S.cls j : Int) = c ∧ 0 < c then (S.fr j).length else 0 := by simp only [roomN, List.range_succ, List.map_append, List.sum_append, List.map_cons, List.map_nil, List.sum_cons, List.sum_nil, Nat.add_zero]
theorem freeN_le (j : Nat) (S : SS) : freeN j S ≤ j := by
  induction j with
  | zero => simp [freeN]
  | succ j ih => rw [freeN_succ]; split <;> omega
theorem roomN_le (j : Nat) (S : SS) (c : Int) (h : ∀ i, i < j → (S.fr i).length ≤ 1000) : roomN j S c ≤ 1000 * j := by
  induction j with
  | zero => simp [roomN]
  | succ j ih =>
    have := ih (fun i hi => h i (by omega))
    have := h j (by omega)
    rw [roomN_succ]; split <;> omega
set_option maxRecDepth 100000 in
set_option maxHeartbeats 2000000 in
theorem xFree (h : RS w p gl a s B S) : Calls Tryz.prog 31 #[.pointer (some ⟨p, 0, none⟩)] w fun e w' => e = .returned (.int .i64 (freeN a S)) ∧ Fr [] w w' := by
  have H0 := Lib.hid h
  have ha := h.cfg.a2
  clear h
  go_enter Tryz.func31, Tryz.ntmps31
  go_wp2_with fail
  go_loopw [3, 4] (fun n i W => ∃ j : Nat, j ≤ a ∧ i = .int .i64 j ∧ n = .int .i64 (freeN j S) ∧ Fr [] w W) (fun _ i _ => a - (intOf i).toNat)
  case atStart => exact ⟨0, by omega, rfl, rfl, Fr.refl _ _⟩
  case round =>
    obtain ⟨j, hj, rfl, rfl, hF'⟩ := hrel
    have F1 := Lib.hid hF'
    have hg2 : (0 : Int) ≤ j := by omega
    have w1 : IntKind.i64.wrap ((j : Int) + 1) = (j : Int) + 1 := IntWalk.i64_in _ (by omega)
    have hle := freeN_le j S
    have w2 : IntKind.i64.wrap ((freeN j S : Int) + 1) = ((freeN j S + 1 : Nat) : Int) := IntWalk.i64_in _ (by omega)
    have HS := Lib.hid (freeN_succ j S)
    clear hF'
    by_cases hlt : j < a
    · obtain ⟨df, cf, dl, cl, rF, rL, hcc⟩ := H0.out.rowi j hlt
      have hg3 : (j : Int) < a := by omega
      have b1 : decide ((j : Int) < a) = true := by simp; omega
      have b1' : decide (j < a) = true := by simp; omega
      obtain ⟨d0, d1, d2, d3, d4⟩ := hcc _ F1.out
      clear hcc rF rL
      by_cases h0 : S.cls j = 0
      · have b2 : ((S.cls j : Int) == 0) = true := by simp [h0]
        have HS2 := Lib.hid (show freeN (j + 1) S = freeN j S + 1 from by rw [HS.out, if_pos h0])
        generalize S.cls j = c at *
        clear h0 HS
        go_wp2_with fail
        go_roundw
        case rel => exact ⟨j + 1, by omega, by go_num, by rw [HS2.out, Int.natCast_add]; rfl, F1.out⟩
        case measure => simp [intOf]; omega
      · have b2 : ((S.cls j : Int) == 0) = false := by simp; exact h0
        have HS2 := Lib.hid (show freeN (j + 1) S = freeN j S from by rw [HS.out, if_neg h0]; rfl)
        generalize S.cls j = c at *
        clear h0 HS w2
        go_wp2_with fail
        go_roundw
        case rel => exact ⟨j + 1, by omega, by go_num, by rw [HS2.out], F1.out⟩
        case measure => simp [intOf]; omega
    · obtain rfl : j = a := by omega
      have b1 : decide ((j : Int) < j) = false := by simp
      have b1' : decide (j < j) = false := by simp
      have d5 := (H0.out.fr0 F1.out).st.cell 2
      simp at d5
      go_wp2_with fail
      go_ret
      exact ⟨rfl, F1.out⟩
set_option maxRecDepth 100000 in
set_option maxHeartbeats 2000000 in
theorem xRoom (h : RS w p gl a s B S) (hl : ∀ i, i < a → (S.fr i).length ≤ 1000) (c : Int) : Calls Tryz.prog 35 #[.pointer (some ⟨p, 0, none⟩), .int .i64 c] w fun e w' => e = .returned (.int .i64 (roomN a S c)) ∧ Fr [] w w' := by
  have H0 := Lib.hid h
  have ha := h.cfg.a2
  clear h
  go_enter Tryz.func35, Tryz.ntmps35
  go_wp2_with fail
  go_loopw [5, 6] (fun n i W => ∃ j : Nat, j ≤ a ∧ i = .int .i64 j ∧ n = .int .i64 (roomN j S c) ∧ Fr [] w W) (fun _ i _ => a - (intOf i).toNat)
  case atStart => exact ⟨0, by omega, rfl, rfl, Fr.refl _ _⟩
  case round =>
    obtain ⟨j, hj, rfl, rfl, hF'⟩ := hrel
    have F1 := Lib.hid hF'
    have hg2 : (0 : Int) ≤ j := by omega
    have w1 : IntKind.i64.wrap ((j : Int) + 1) = (j : Int) + 1 := IntWalk.i64_in _ (by omega)
    have hle := roomN_le j S c (fun i hi => hl i (by omega))
    have HS := Lib.hid (roomN_succ j S c)
    clear hF'
    by_cases hlt : j < a
    · obtain ⟨df, cf, dl, cl, rF, rL, hcc⟩ := H0.out.rowi j hlt
      have hlj := hl j hlt
      have hg3 : (j : Int) < a := by omega
      have b1 : decide ((j : Int) < a) = true := by simp; omega
      have b1' : decide (j < a) = true := by simp; omega
      have w2 : IntKind.i64.wrap ((roomN j S c : Int) + ((S.fr j).length : Int)) = ((roomN j S c + (S.fr j).length : Nat) : Int) := IntWalk.i64_in _ (by omega)
      obtain ⟨d0, d1, d2, d3, d4⟩ := hcc _ F1.out
      clear hcc rF rL
      by_cases h0 : (S.cls j : Int) = c
      · have b2 : ((S.cls j : Int) == c) = true := by simp [h0]
        by_cases h1 : 0 < c
        · have b3 : decide (0 < c) = true := by simpa using h1
          have HS2 := Lib.hid (show roomN (j + 1) S c = roomN j S c + (S.fr j).length from by rw [HS.out, if_pos ⟨h0, h1⟩])
          generalize S.cls j = k at *
          generalize (S.fr j).length = m at *
          clear h0 h1 HS
          go_wp2_with fail
          go_roundw
          case rel => exact ⟨j + 1, by omega, by go_num, by rw [HS2.out, Int.natCast_add], F1.out⟩
          case measure => simp [intOf]; omega
        · have b3 : decide (0 < c) = false := by simpa using h1
          have HS2 := Lib.hid (show roomN (j + 1) S c = roomN j S c from by rw [HS.out, if_neg (fun h => h1 h.2)]; rfl)
          generalize S.cls j = k at *
          clear h0 h1 HS w2
          go_wp2_with fail
          go_roundw
          case rel => exact ⟨j + 1, by omega, by go_num, by rw [HS2.out], F1.out⟩
          case measure => simp [intOf]; omega
      · have b2 : ((S.cls j : Int) == c) = false := by simp; exact h0
        have HS2 := Lib.hid (show roomN (j + 1) S c = roomN j S c from by rw [HS.out, if_neg (fun h => h0 h.1)]; rfl)
        generalize S.cls j = k at *
        clear h0 HS w2
        go_wp2_with fail
        go_roundw
        case rel => exact ⟨j + 1, by omega, by go_num, by rw [HS2.out], F1.out⟩
        case measure => simp [intOf]; omega
    · obtain rfl : j = a := by omega
      have b1 : decide ((j : Int) < j) = false := by simp
      have b1' : decide (j < j) = false := by simp
      have d5 := (H0.out.fr0 F1.out).st.cell 2
      simp at d5
      go_wp2_with fail
      go_ret
      exact ⟨rfl, F1.out⟩
end
end Go.Proofs.YtkapkbiccppldaaGreatDoor

/- law15: the memory and the document's slabs together. -/
namespace Go.Proofs.YtkapkbiccppldaaGreatDoor
set_option linter.unusedVariables false
set_option linter.unusedSimpArgs false
open Go.RowKit

theorem M15.lt {w0 W : World} {q : MH} {a s : Nat} {S : SS} (h : M15 w0 q a s S W) : ∀ k ∈ q.blocks, k < W.heap.size := by
  obtain ⟨u, h1, _⟩ := h.x
  exact h1.m.lt
theorem M15.fr1 {w0 W W' : World} {q : MH} {a s g : Nat} {S : SS} (h : M15 w0 q a s S W) (hf : Fr [g] W W') (hg : g ∉ q.blocks) (hg0 : 5 ≤ g) (hgw : w0.heap.size ≤ g) : M15 w0 q a s S W' := by
  obtain ⟨u, h1, h2, h3, h4, h5⟩ := h.x
  exact ⟨⟨u, h1.fr1 hf hg hg0, h2, h3, h4, h5⟩, h.f.step hf (fun k hk => by simp at hk; subst hk; exact .inr hgw), h.hq⟩
/-- Both: the memory's slabs S1, the document's S2. -/
structure K15 (w0 : World) (q : MH) (p gl a s : Nat) (S1 S2 : SS) (W : World) : Prop where
  m : M15 w0 q a s S1 W
  r : ∃ B, RS W p gl a s B S2 ∧ (∀ k ∈ q.blocks, k ∉ B) ∧ ∀ k ∈ B, w0.heap.size ≤ k
  g : 5 ≤ w0.heap.size
section
variable {w0 W : World} {q : MH} {p gl a s : Nat} {S1 S2 : SS}
theorem K15.fr0 {W' : World} (h : K15 w0 q p gl a s S1 S2 W) (hf : Fr [] W W') : K15 w0 q p gl a s S1 S2 W' := by
  obtain ⟨B, h1, h2, h3⟩ := h.r
  exact ⟨h.m.fr0 hf, ⟨B, h1.fr0 hf, h2, h3⟩, h.g⟩
theorem K15.rx {W' : World} {S3 : SS} (h : K15 w0 q p gl a s S1 S2 W) (hx : ∀ B, RS W p gl a s B S2 → (∀ k ∈ q.blocks, k ∉ B) → RX W W' p gl a s B S3) : K15 w0 q p gl a s S1 S3 W' := by
  obtain ⟨B, h1, h2, h3⟩ := h.r
  obtain ⟨⟨B', g1, g2, g3⟩, g4⟩ := hx B h1 h2
  have hgl := h3 _ h1.hg
  refine ⟨h.m.fr1 g4 (fun hm => h2 _ hm h1.hg) (Nat.le_trans h.g hgl) hgl, ⟨B', g1, fun k hk hb => ?_, fun k hk => ?_⟩, h.g⟩
  · rcases g3 k hb with h' | h'
    · exact h2 k hk h'
    · have := h.m.lt k hk; omega
  · rcases g3 k hk with h' | h'
    · exact h3 k h'
    · exact Nat.le_trans h.m.f.size h'
theorem K15.step {W' : World} {S3 : SS} (h : K15 w0 q p gl a s S1 S2 W) (hm : M15 w0 q a s S3 W') (hf : Fr q.blocks W W') : K15 w0 q p gl a s S3 S2 W' := by
  obtain ⟨B, h1, h2, h3⟩ := h.r
  exact ⟨hm, ⟨B, h1.fr hf h2, h2, h3⟩, h.g⟩
theorem K15.sl (h : K15 w0 q p gl a s S1 S2 W) : ∀ i, i < a → S1.cls i ≤ 9 ∧ (S1.fr i).length ≤ 1000 ∧ (S1.lv i).length ≤ 1000 := fun i hi => by
  obtain ⟨u, h1, h2, h3, h4, h5⟩ := h.m.x
  have e := h2.each i (by rw [h3]; exact hi)
  refine ⟨e.c9, ?_⟩
  by_cases h0 : S1.cls i = 0
  · obtain ⟨e1, e2, _⟩ := e.z h0
    rw [e1, e2]; simp
  · have hlen := e.len h0
    obtain ⟨c1, c2, c3, c4, c5, _⟩ := csz_tab (S1.cls i) (by omega) e.c9
    omega
theorem k_begin {w1 : World} (h1 : IsH w1 q (newT a s)) (hc : Cfg a s) (hf : Fr [] w0 w1) (hq : ∀ k ∈ q.blocks, w0.heap.size ≤ k) (hg : 5 ≤ w0.heap.size) (hr : RS W p gl a s [p, gl] SS.zero) (hp : w1.heap.size ≤ p) (hgl : w1.heap.size ≤ gl) (f2 : Fr [] w1 W) :
    Calls Tryz.prog 17 #[.pointer (some ⟨q.m, 0, none⟩)] W fun e w' => e = .returned (.int .i64 0) ∧ K15 w0 q p gl a s SS.zero SS.zero w' := by
  have hd : ∀ k ∈ q.blocks, k ∉ [p, gl] := fun k hk hm => by
    have := h1.m.lt k hk
    simp at hm
    omega
  refine (m_begin (w0 := w0) (h1.fr0 f2) hc (hf.trans f2) hq).mono fun e w' ⟨he, hm, hf'⟩ => ⟨he, hm, ⟨[p, gl], hr.fr hf' hd, hd, fun k hk => ?_⟩, hg⟩
  have := hf.size
  simp at hk
  omega
theorem k_take (h : K15 w0 q p gl a s S1 S2 W) (c : Int) : Calls Tryz.prog 18 #[.pointer (some ⟨q.m, 0, none⟩), .int .i64 c] W fun e w' => e = .returned (.tuple #[.int .i64 (takeS a (lbase a s) S1 c).1, .int .i64 (takeS a (lbase a s) S1 c).2.1]) ∧ K15 w0 q p gl a s (takeS a (lbase a s) S1 c).2.2 S2 w' := by
  obtain ⟨u, h1, h2, h3, h4, h5⟩ := h.m.x
  have := stake h1 h2 c
  rw [h3, h4] at this
  exact this.mono fun e w' ⟨he, v, k1, k2, k3, k4, k5, k6⟩ => ⟨he, h.step ⟨⟨v, k1, k2, k3.a.trans h3, k3.s.trans h4, k3.ft.trans h5⟩, h.m.f.step k6 (fun k hk => .inr (h.m.hq k hk)), h.m.hq⟩ k6⟩
theorem k_xtake (h : K15 w0 q p gl a s S1 S2 W) (hl : ∀ i, i < a → (S2.fr i).length ≤ 1000 ∧ (S2.lv i).length ≤ 1000) (c : Int) : Calls Tryz.prog 19 #[.pointer (some ⟨p, 0, none⟩), .int .i64 c] W fun e w' => e = .returned (.tuple #[.int .i64 (takeS a (lbase a s) S2 c).1, .int .i64 (takeS a (lbase a s) S2 c).2.1]) ∧ K15 w0 q p gl a s S1 (takeS a (lbase a s) S2 c).2.2 w' := by
  obtain ⟨B, h1, h2, h3⟩ := h.r
  have hx := xTake h1 hl c
  exact hx.mono fun e w' ⟨he, hx⟩ => ⟨he, ⟨h.m.fr1 hx.f (fun hm => h2 _ hm h1.hg) (Nat.le_trans h.g (h3 _ h1.hg)) (h3 _ h1.hg), by
    obtain ⟨B', g1, g2, g3⟩ := hx.x
    refine ⟨B', g1, fun k hk hb => ?_, fun k hk => ?_⟩
    · rcases g3 k hb with h' | h'
      · exact h2 k hk h'
      · have := h.m.lt k hk; omega
    · rcases g3 k hk with h' | h'
      · exact h3 k h'
      · exact Nat.le_trans h.m.f.size h', h.g⟩⟩
theorem k_block (h : K15 w0 q p gl a s S1 S2 W) (x : Int) : Calls Tryz.prog 20 #[.pointer (some ⟨q.m, 0, none⟩), .int .i64 x] W fun e w' => e = .returned (.tuple #[.int .i64 (blkS a (lbase a s) S1 x).1, .int .i64 (blkS a (lbase a s) S1 x).2.1, .bool (blkS a (lbase a s) S1 x).2.2]) ∧ K15 w0 q p gl a s S1 S2 w' := by
  obtain ⟨u, h1, h2, h3, h4, h5⟩ := h.m.x
  have := sblock h1 h2 x
  rw [h3, h4] at this
  exact this.mono fun e w' ⟨he, k1, k6⟩ => ⟨he, h.step ⟨⟨u, k1, h2, h3, h4, h5⟩, h.m.f.step k6 (fun k hk => .inr (h.m.hq k hk)), h.m.hq⟩ k6⟩
theorem k_xblock (h : K15 w0 q p gl a s S1 S2 W) (h9 : ∀ i, i < a → S2.cls i ≤ 9) (x : Int) : Calls Tryz.prog 21 #[.pointer (some ⟨p, 0, none⟩), .int .i64 x] W fun e w' => e = .returned (.tuple #[.int .i64 (blkS a (lbase a s) S2 x).1, .int .i64 (blkS a (lbase a s) S2 x).2.1, .bool (blkS a (lbase a s) S2 x).2.2]) ∧ Fr [] W w' := by
  obtain ⟨B, h1, h2, h3⟩ := h.r
  exact xblock h1 h9 x
end
end Go.Proofs.YtkapkbiccppldaaGreatDoor
