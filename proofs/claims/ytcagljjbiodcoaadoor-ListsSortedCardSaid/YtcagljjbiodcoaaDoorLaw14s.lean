/- Layer 14: ListsSorted. -/
import Derived.Test.YtcagljjbiodcoaaDoorLaw14a
namespace Go.Proofs.YtcagljjbiodcoaaDoor
set_option linter.unusedVariables false
open Go.RowKit

set_option maxRecDepth 100000 in
set_option maxHeartbeats 8000000 in
theorem walk_sorted (w : World) (hM : TabM w) (a : Option Addr) (c : Nat) (l : List A14) (h : ActA14 w a c l) :
    Calls Tryd.prog 7 #[.slice a l.length c] w fun e w' => e = .returned (.bool true) ∧ Fr [] w w' := by
  have HL := Lib.hid (fun W (hf : Fr [] w W) => lines14 W (hM.fr hf (by simp)))
  by_cases hlen : 60 < l.length
  · have b1 : decide ((60 : Int) < l.length) = true := by simp; omega
    have b1' : decide (60 < l.length) = true := by simp; omega
    have hL := HL.out w (Fr.refl _ _)
    clear hlen
    go_enter Tryd.func7, Tryd.ntmps7
    go_wp2_with fail
    with_reducible refine hL.mono ?_
    rintro e w1 ⟨rfl, f1⟩
    go_wp2_with fail
    go_ret
    exact ⟨rfl, f1⟩
  have b1 : decide ((60 : Int) < l.length) = false := by simp; omega
  have b1' : decide (60 < l.length) = false := by simp; omega
  have hn := (show Calls Tryd.prog 17 #[.agg #[.int .i64 16, .int .i64 512]] w (NewT w 16 512) from tnew w hM 16 512 cfg16)
  have HA := Lib.hid h
  generalize hnn : l.length = n at *
  have HN := Lib.hid hnn
  have hn60 : n ≤ 60 := by omega
  clear hlen h hnn hM
  go_enter Tryd.func7, Tryd.ntmps7
  go_wp2_with fail
  with_reducible refine hn.mono ?_
  rintro e w1 ⟨q, rfl, h1, hq, f1⟩
  have HB := Lib.hid (s14_beg h1 f1 hq)
  have HQ := Lib.hid hq
  clear hn h1 f1 hq
  go_wp2_with fail
  with_reducible refine HB.out.mono ?_
  rintro e w2 ⟨rfl, h2⟩
  have H2 := Lib.hid h2
  clear HB h2
  go_wp2_with fail
  go_loopw [4] (fun v W => ∃ j : Nat, j ≤ n ∧ v = .int .i64 j ∧ S14 w q 16 W) (fun v _ => n - (intOf v).toNat)
  case atStart => exact ⟨0, by omega, rfl, H2.out⟩
  case round =>
    clear H2
    obtain ⟨j, hj, rfl, hS⟩ := hrel
    have HS := Lib.hid hS
    clear hS
    by_cases hlt : j < n
    · obtain ⟨B, off, rfl, hBl, hr⟩ := HA.out.row (by rw [HN.out]; omega)
      have hlt' : j < l.length := by rw [HN.out]; exact hlt
      have hrj := hr j hlt'
      have e0 := (HS.out.f.cell (p := ⟨B, off + j * 5, none⟩) hBl (by simp)).trans hrj.c0
      have D1 := Lib.hid (And.intro hrj.c1 hBl)
      have D2 := Lib.hid (And.intro hrj.c2 hBl)
      generalize l[j]'hlt' = y at *
      obtain ⟨yk, yc, yx, yl, yf⟩ := y
      simp only at e0 D1 D2
      clear hr hrj
      have hg2 : (0 : Int) ≤ j := by omega
      have hg3 : (j : Int) < n := by omega
      have w3 : IntKind.i64.wrap ((j : Int) + 1) = (j : Int) + 1 := IntWalk.i64_in _ (by omega)
      by_cases hk : yk < 3
      · have b2 : decide (yk < 3) = true := by simpa using hk
        clear hk
        go_wp2_with fail
        have hY := And.intro ((HS.out.drew.f.cell (p := ⟨B, off + j * 5 + 1, none⟩) D1.out.2 (by simp)).trans D1.out.1) ((HS.out.drew.f.cell (p := ⟨B, off + j * 5 + 2, none⟩) D2.out.2 (by simp)).trans D2.out.1)
        go_region_held3 (fun W => W.cell? ⟨B, off + j * 5 + 1, none⟩ = some (.int .i64 yc) ∧ W.cell? ⟨B, off + j * 5 + 2, none⟩ = some (.int .i64 yx)) (exact hY)
          (first | (go_at_call 33; with_reducible refine (s14_ins HS.out.drew yc yx).mono ?_; rintro e W2 ⟨r, rfl, hS2⟩; have HS2 := Lib.hid hS2; have hY := And.intro ((HS2.out.f.cell (p := ⟨B, off + j * 5 + 1, none⟩) D1.out.2 (by simp)).trans D1.out.1) ((HS2.out.f.cell (p := ⟨B, off + j * 5 + 2, none⟩) D2.out.2 (by simp)).trans D2.out.1); clear hS2) | fail)
        go_wp2_with fail
        go_roundw
        case rel => exact ⟨j + 1, by omega, by go_num, HS2.out⟩
        case measure => simp [intOf]; omega
      · have b2 : decide (yk < 3) = false := by simpa using hk
        clear hk
        go_wp2_with fail
        have hY := And.intro ((HS.out.drew.f.cell (p := ⟨B, off + j * 5 + 1, none⟩) D1.out.2 (by simp)).trans D1.out.1) ((HS.out.drew.f.cell (p := ⟨B, off + j * 5 + 2, none⟩) D2.out.2 (by simp)).trans D2.out.1)
        go_region_held3 (fun W => W.cell? ⟨B, off + j * 5 + 1, none⟩ = some (.int .i64 yc) ∧ W.cell? ⟨B, off + j * 5 + 2, none⟩ = some (.int .i64 yx)) (exact hY)
          (first | (go_at_call 34; with_reducible refine (s14_rem HS.out.drew yc yx).mono ?_; rintro e W2 ⟨r, rfl, hS2⟩; have HS2 := Lib.hid hS2; have hY := And.intro ((HS2.out.f.cell (p := ⟨B, off + j * 5 + 1, none⟩) D1.out.2 (by simp)).trans D1.out.1) ((HS2.out.f.cell (p := ⟨B, off + j * 5 + 2, none⟩) D2.out.2 (by simp)).trans D2.out.1); clear hS2) | fail)
        go_wp2_with fail
        go_roundw
        case rel => exact ⟨j + 1, by omega, by go_num, HS2.out⟩
        case measure => simp [intOf]; omega
    · have b3 : decide ((j : Int) < n) = false := by simp; omega
      have b3' : decide (j < n) = false := by simp; omega
      obtain ⟨t, inn, hi, hl, ha⟩ := HS.out.x
      have F0 := Lib.hid HS.out.f
      have HI := Lib.hid hi
      have HLS := Lib.hid hl
      have hmk : ∀ w, (Instr.makeSlice 59 (.int .i64 16) (.int .i64 16)).run Tryd.prog w = .ok (.slice (some ⟨w.heap.size, 0, none⟩) 16 16) (w.alloc (.cells (intsF 16 (fun _ => 0)) 3)) := fun w => run_make_F 59 3 Tryd.underlying59 info_int .i64 .i64 16 (by decide) w
      clear HS hi hl HA HN
      go_wp2_with fail
      have BS : Blk (wr.alloc (.cells (intsF 16 (fun _ => 0)) 3)) wr.heap.size 3 (intsF 16 (seenF inn 0 [] 0)) := by
        have e : intsF 16 (seenF inn 0 [] 0) = intsF 16 (fun _ => 0) := intsF_congr (fun i _ => by unfold seenF; rw [if_neg (by simp)])
        rw [e]
        exact Blk.new _ _ _
      have F1 := Lib.hid (F0.out.alloc (.cells (intsF 16 (fun _ => 0)) 3))
      have I1 := Lib.hid (HI.out.alloc (.cells (intsF 16 (fun _ => 0)) 3))
      have HBS := Lib.hid BS
      have hgs : wr.heap.size ∉ q.blocks := fun hm => by have := HI.out.lt _ hm; omega
      have hgw : w.heap.size ≤ wr.heap.size := F0.out.size
      have hgx := HI.out.tab.size
      generalize wr.heap.size = gs at *
      generalize wr.alloc (.cells (intsF 16 (fun _ => 0)) 3) = w3 at *
      clear hmk BS HI F0
      go_loopw [6] (fun v W => ∃ k : Nat, k ≤ 10 ∧ v = .int .i64 k ∧ IsT W q t ∧ Fr [] w W ∧ Blk W gs 3 (intsF 16 (seenF inn k [] 0))) (fun v _ => 10 - (intOf v).toNat)
      case atStart => exact ⟨0, by omega, rfl, I1.out, F1.out, HBS.out⟩
      case round =>
        clear I1 F1 HBS
        obtain ⟨k, hk, rfl, hI, hF, hB⟩ := hrel
        have HI := Lib.hid hI
        have HF := Lib.hid hF
        have HB := Lib.hid hB
        clear hI hF hB
        by_cases hlt : k < 10
        · have hall := liall HI.out HLS.out k
          unfold lstI at hall
          rw [if_pos (by omega), ha, Int.toNat_natCast] at hall
          have b4 : decide ((k : Int) < 10) = true := by simp; omega
          have b4' : decide (k < 10) = true := by simp; omega
          go_wp2_with fail
          with_reducible refine hall.mono ?_
          rintro e w4 ⟨v, rfl, hv, hi4, hf4⟩
          obtain ⟨ad, cap, rfl, hrow⟩ := own_row hv
          have HI4 := Lib.hid hi4
          have HF4 := Lib.hid (HF.out.step hf4 (fun k hk => .inr (HQ.out k hk)))
          have HB4 := Lib.hid (HB.out.fr hf4 hgs)
          have HR4 := Lib.hid hrow
          have hbase : gs < wr.heap.size := HB.out.lt
          have hqb : ∀ k ∈ q.blocks, k < wr.heap.size := HI.out.lt
          have hso := lst_sorted 16 inn k
          have hmem : ∀ y ∈ lst 16 inn k, y < 16 ∧ inn y = (k : Int) := fun y hy => lst_lt hy
          have hsz : (lst 16 inn k).length ≤ 16 := lst_len 16 inn k
          have hfst := Lib.hid (fun W hW => lifst (w := W) (q := q) (t := t) hW HLS.out k)
          have hfv : firstV t inn k = (hd1 (lst 16 inn k) : Int) - 1 := by unfold firstV; rw [if_pos (by omega), ha, Int.toNat_natCast]
          rw [hfv] at hfst
          have HSA := Lib.hid (fun i hi => seen_all inn 16 k i hi)
          generalize lst 16 inn k = L at *
          generalize hm : L.length = m at *
          generalize wr.heap.size = base at *
          clear hall hv hrow hi4 hf4 HI HF HB hfv
          go_wp2_with fail
          go_loopw [8] (fun v W => ∃ j : Nat, j ≤ m ∧ v = .int .i64 j ∧ IsT W q t ∧ Fr [] w W ∧ Blk W gs 3 (intsF 16 (seenF inn k L j)) ∧ RowV W base ad cap L) (fun v _ => m - (intOf v).toNat)
          case atStart => exact ⟨0, by omega, rfl, HI4.out, HF4.out, by rw [intsF_congr (k := seenF inn k [] 0) (fun i _ => seen_0 inn k i L)]; exact HB4.out, HR4.out⟩
          case round =>
            clear HI4 HF4 HB4 HR4
            obtain ⟨j, hj, rfl, hI, hF, hB, hR⟩ := hrel
            have HI := Lib.hid hI
            have HF := Lib.hid hF
            have HB := Lib.hid hB
            have HR := Lib.hid hR
            clear hI hF hB hR
            by_cases hlt : j < m
            · obtain ⟨g, rfl, hgb, hri⟩ := HR.out (by omega)
              have hjl : j < L.length := by omega
              obtain ⟨s0, s1⟩ := seen_step inn k L j hjl hso (fun y hy => (hmem y hy).2)
              have hy16 := (hmem L[j] (List.getElem_mem _)).1
              have cY := fun q => (hri.drewN q).cell j hjl
              have hb5 : decide ((j : Int) < m) = true := by simp; omega
              have hb5' : decide (j < m) = true := by simp; omega
              have hz : ∀ h0 : 0 < j, (∀ q, (wr.drewN q).cell? ⟨g, j - 1, none⟩ = some (.int .i64 (L[j - 1]'(by omega) : Int))) ∧ L[j - 1]'(by omega) < L[j] := fun h0 => ⟨fun q => (hri.drewN q).cell (j - 1) (by omega), List.pairwise_iff_getElem.1 hso (j - 1) j (by omega) hjl (by omega)⟩
              by_cases h0 : 0 < j
              · obtain ⟨cZ, hzy⟩ := hz h0
                have d3 : decide ((0 : Int) < j) = true := by simp; omega
                have d3' : decide (0 < j) = true := by simp; omega
                have w1 : IntKind.i64.wrap ((j : Int) - 1) = (j : Int) - 1 := IntWalk.i64_in _ (by omega)
                have hg4 : (0 : Int) ≤ (j : Int) - 1 := by omega
                have hg5 : (j : Int) - 1 < m := by omega
                have hg6 : ((j : Int) - 1).toNat = j - 1 := by omega
                generalize L[j - 1]'(by omega) = z at *
                generalize L[j]'hjl = y at *
                have d1 : decide ((y : Int) < 0) = false := by simp
                have d2 : decide ((15 : Int) < y) = false := by simp; omega
                have d2' : decide (15 < y) = false := by simp; omega
                have d4 : decide ((y : Int) ≤ z) = false := by simp; omega
                have d4' : decide (y ≤ z) = false := by simp; omega
                clear hz hso hmem h0
                go_wp2_with fail
                go_quiet (fail)
                go_wp2_with fail
                rename_i nq
                have hri5 := hri.drewN nq
                have HI5 := Lib.hid (HI.out.drewN nq)
                have HF5 := Lib.hid (HF.out.drewN nq)
                have HB5 := Lib.hid (HB.out.drewN nq)
                have HR5 := Lib.hid (HR.out.fr (S := []) ((Fr.refl _ _).drewN nq) (by simp))
                have cY5 := cY nq
                have cS5 := HB5.out.cellF y (by omega)
                rw [s0] at cS5
                have zS5 := HB5.out.frozen y
                have hg7 : (0 : Int) ≤ y := by omega
                have hg8 : (y : Int) < 16 := by omega
                clear HI HF HB HR cY s0
                generalize wr.drewN nq = W5 at *
                go_region
                go_wp2_with fail
                have fX : Fr [gs] W5 (W5.setCell ⟨gs, y, none⟩ (.int .i64 1)).drew := ((Fr.refl [gs] W5).setCell (.inl (by simp)) _).drew
                have hB6 : Blk (W5.setCell ⟨gs, y, none⟩ (.int .i64 1)).drew gs 3 (intsF 16 (seenF inn k L (j + 1))) := (HB5.out.setF _ y 1 (fun i _ => s1 i)).drew
                exact ⟨⟨j + 1, by omega, by go_num, HI5.out.fr fX (fun k hk hm => by simp at hm; subst hm; exact hgs hk) (fun k hk hm => by simp at hm; omega), HF5.out.step fX (fun k hk => .inr (by simp at hk; omega)), hB6, HR5.out.fr fX (fun k hk => by simp at hk; omega)⟩, by simp [intOf]; omega⟩
              · have d3 : decide ((0 : Int) < j) = false := by simp; omega
                have d3' : decide (0 < j) = false := by simp; omega
                generalize L[j]'hjl = y at *
                have d1 : decide ((y : Int) < 0) = false := by simp
                have d2 : decide ((15 : Int) < y) = false := by simp; omega
                have d2' : decide (15 < y) = false := by simp; omega
                clear hz hso hmem h0
                go_wp2_with fail
                go_quiet (fail)
                go_wp2_with fail
                rename_i nq
                have hri5 := hri.drewN nq
                have HI5 := Lib.hid (HI.out.drewN nq)
                have HF5 := Lib.hid (HF.out.drewN nq)
                have HB5 := Lib.hid (HB.out.drewN nq)
                have HR5 := Lib.hid (HR.out.fr (S := []) ((Fr.refl _ _).drewN nq) (by simp))
                have cY5 := cY nq
                have cS5 := HB5.out.cellF y (by omega)
                rw [s0] at cS5
                have zS5 := HB5.out.frozen y
                have hg7 : (0 : Int) ≤ y := by omega
                have hg8 : (y : Int) < 16 := by omega
                clear HI HF HB HR cY s0
                generalize wr.drewN nq = W5 at *
                go_region
                go_wp2_with fail
                have fX : Fr [gs] W5 (W5.setCell ⟨gs, y, none⟩ (.int .i64 1)).drew := ((Fr.refl [gs] W5).setCell (.inl (by simp)) _).drew
                have hB6 : Blk (W5.setCell ⟨gs, y, none⟩ (.int .i64 1)).drew gs 3 (intsF 16 (seenF inn k L (j + 1))) := (HB5.out.setF _ y 1 (fun i _ => s1 i)).drew
                exact ⟨⟨j + 1, by omega, by go_num, HI5.out.fr fX (fun k hk hm => by simp at hm; subst hm; exact hgs hk) (fun k hk hm => by simp at hm; omega), HF5.out.step fX (fun k hk => .inr (by simp at hk; omega)), hB6, HR5.out.fr fX (fun k hk => by simp at hk; omega)⟩, by simp [intOf]; omega⟩
            · obtain rfl : j = m := by omega
              have hb5 : decide ((j : Int) < j) = false := by simp
              have hb5' : decide (j < j) = false := by simp
              have hB9 : Blk wr gs 3 (intsF 16 (seenF inn (k + 1) [] 0)) := by
                rw [intsF_congr (k := seenF inn k L j) (fun i hi => by rw [← HSA.out i hi])]
                exact HB.out
              have HB9 := Lib.hid hB9
              have w9 : IntKind.i64.wrap ((k : Int) + 1) = (k : Int) + 1 := IntWalk.i64_in _ (by omega)
              by_cases h0 : j = 0
              · have e0 : ((j : Int) == 0) = true := by simp; omega
                have e0' : (j == 0) = true := by simp; omega
                have e1 : decide ((0 : Int) < j) = false := by simp; omega
                have e1' : decide (0 < j) = false := by simp; omega
                have hL : L = [] := List.length_eq_zero_iff.1 (by omega)
                have hf1 := hfst.out wr.drew HI.out.drew
                rw [hL, show ((hd1 [] : Nat) : Int) - 1 = -1 from rfl] at hf1
                have HF1 := Lib.hid hf1
                clear HB hB9 hL hf1 hfst h0 hm hj
                go_wp2_with fail
                refine wp_region_held_drew (S := fun _ => True) (by kernel_rfl) (trivial) (fun hHeld => ?_)
                refine wpAnyH_take (i := 0) (oi := ?ooa0) (v := ?vva0) ?hia0 (by kernel_rfl) (by kernel_rfl) (by kernel_rfl) ?hqa0 (Or.inl ⟨?hwa0, ?hha0⟩) hHeld ?rra0
                case hia0 => (simp only [List.getElem?_toArray, List.getElem?_cons_zero, List.getElem?_cons_succ]; rfl)
                case hqa0 => exact fun _ _ _ h => h
                case hwa0 => rfl
                case hha0 => (intro w hSw; (try dsimp only at hSw); go_simp; try with_reducible rfl)
                try simp only [Act.put, List.setIfInBounds_toArray, List.set_cons_zero, List.set_cons_succ]
                refine wpAnyH_take (i := 1) (oi := ?ooa1) (v := ?vva1) ?hia1 (by kernel_rfl) (by kernel_rfl) (by kernel_rfl) ?hqa1 (Or.inl ⟨?hwa1, ?hha1⟩) hHeld ?rra1
                case hia1 => (simp only [List.getElem?_toArray, List.getElem?_cons_zero, List.getElem?_cons_succ]; rfl)
                case hqa1 => exact fun _ _ _ h => h
                case hwa1 => rfl
                case hha1 => (intro w hSw; (try dsimp only at hSw); go_simp; try with_reducible rfl)
                try simp only [Act.put, List.setIfInBounds_toArray, List.set_cons_zero, List.set_cons_succ]
                refine wpAnyH_take (i := 2) (oi := ?ooa2) (v := ?vva2) ?hia2 (by kernel_rfl) (by kernel_rfl) (by kernel_rfl) ?hqa2 (Or.inl ⟨?hwa2, ?hha2⟩) hHeld ?rra2
                case hia2 => (simp only [List.getElem?_toArray, List.getElem?_cons_zero, List.getElem?_cons_succ]; rfl)
                case hqa2 => exact fun _ _ _ h => h
                case hwa2 => rfl
                case hha2 => (intro w hSw; (try dsimp only at hSw); go_simp; try with_reducible rfl)
                try simp only [Act.put, List.setIfInBounds_toArray, List.set_cons_zero, List.set_cons_succ]
                refine wpAnyH_take (i := 3) (oi := ?ooa3) (v := ?vva3) ?hia3 (by kernel_rfl) (by kernel_rfl) (by kernel_rfl) ?hqa3 (Or.inl ⟨?hwa3, ?hha3⟩) hHeld ?rra3
                case hia3 => (simp only [List.getElem?_toArray, List.getElem?_cons_zero, List.getElem?_cons_succ]; rfl)
                case hqa3 => exact fun _ _ _ h => h
                case hwa3 => rfl
                case hha3 => (intro w hSw; (try dsimp only at hSw); go_simp; try with_reducible rfl)
                try simp only [Act.put, List.setIfInBounds_toArray, List.set_cons_zero, List.set_cons_succ]
                refine wpAnyH_take (i := 4) (oi := ?ooa4) (v := ?vva4) ?hia4 (by kernel_rfl) (by kernel_rfl) (by kernel_rfl) ?hqa4 (Or.inl ⟨?hwa4, ?hha4⟩) hHeld ?rra4
                case hia4 => (simp only [List.getElem?_toArray, List.getElem?_cons_zero, List.getElem?_cons_succ]; rfl)
                case hqa4 => exact fun _ _ _ h => h
                case hwa4 => rfl
                case hha4 => (intro w hSw; (try dsimp only at hSw); go_simp; try with_reducible rfl)
                try simp only [Act.put, List.setIfInBounds_toArray, List.set_cons_zero, List.set_cons_succ]
                refine wpAnyH_take (i := 5) (oi := ?ooa5) (v := ?vva5) ?hia5 (by kernel_rfl) (by kernel_rfl) (by kernel_rfl) ?hqa5 (Or.inl ⟨?hwa5, ?hha5⟩) hHeld ?rra5
                case hia5 => (simp only [List.getElem?_toArray, List.getElem?_cons_zero, List.getElem?_cons_succ]; rfl)
                case hqa5 => exact fun _ _ _ h => h
                case hwa5 => rfl
                case hha5 => (intro w hSw; (try dsimp only at hSw); go_simp; try with_reducible rfl)
                try simp only [Act.put, List.setIfInBounds_toArray, List.set_cons_zero, List.set_cons_succ]
                refine wpAnyH_ready (rs := [6]) (by kernel_rfl) (by simp) ?_
                refine AllReadyH.cons (o := ?ooa6) ?hia6 (fun K hK => ?hca6) AllReadyH.nil
                case hia6 => (simp only [List.getElem?_toArray, List.getElem?_cons_zero, List.getElem?_cons_succ]; rfl)
                go_simp
                with_reducible refine HF1.out.mono ?_
                rintro e W2 ⟨rfl, hI2, hf2⟩
                have HI2 := Lib.hid hI2
                have HF2 := Lib.hid (HF.out.drew.step hf2 (fun k hk => .inr (HQ.out k hk)))
                have HB2 := Lib.hid (HB9.out.drew.fr hf2 hgs)
                clear hI2 hf2
                go_wp2_with fail
                refine hK.out _ _ (trivial) (fun hHeld => ?_)
                clear hK K
                try simp only [Act.put, List.setIfInBounds_toArray, List.set_cons_zero, List.set_cons_succ]
                refine wpAnyH_take (i := 7) (oi := ?ooa7) (v := ?vva7) ?hia7 (by kernel_rfl) (by kernel_rfl) (by kernel_rfl) ?hqa7 (Or.inl ⟨?hwa7, ?hha7⟩) hHeld ?rra7
                case hia7 => (simp only [List.getElem?_toArray, List.getElem?_cons_zero, List.getElem?_cons_succ]; rfl)
                case hqa7 => exact fun _ _ _ h => h
                case hwa7 => rfl
                case hha7 => (intro w hSw; (try dsimp only at hSw); go_simp; try with_reducible rfl)
                try simp only [Act.put, List.setIfInBounds_toArray, List.set_cons_zero, List.set_cons_succ]
                refine wpAnyH_take (i := 8) (oi := ?ooa8) (v := ?vva8) ?hia8 (by kernel_rfl) (by kernel_rfl) (by kernel_rfl) ?hqa8 (Or.inl ⟨?hwa8, ?hha8⟩) hHeld ?rra8
                case hia8 => (simp only [List.getElem?_toArray, List.getElem?_cons_zero, List.getElem?_cons_succ]; rfl)
                case hqa8 => exact fun _ _ _ h => h
                case hwa8 => rfl
                case hha8 => (intro w hSw; (try dsimp only at hSw); go_simp; try with_reducible rfl)
                try simp only [Act.put, List.setIfInBounds_toArray, List.set_cons_zero, List.set_cons_succ]
                refine wpAnyH_take (i := 9) (oi := ?ooa9) (v := ?vva9) ?hia9 (by kernel_rfl) (by kernel_rfl) (by kernel_rfl) ?hqa9 (Or.inl ⟨?hwa9, ?hha9⟩) hHeld ?rra9
                case hia9 => (simp only [List.getElem?_toArray, List.getElem?_cons_zero, List.getElem?_cons_succ]; rfl)
                case hqa9 => exact fun _ _ _ h => h
                case hwa9 => rfl
                case hha9 => (intro w hSw; (try dsimp only at hSw); go_simp; try with_reducible rfl)
                try simp only [Act.put, List.setIfInBounds_toArray, List.set_cons_zero, List.set_cons_succ]
                refine wpAnyH_take (i := 10) (oi := ?ooa10) (v := ?vva10) ?hia10 (by kernel_rfl) (by kernel_rfl) (by kernel_rfl) ?hqa10 (Or.inl ⟨?hwa10, ?hha10⟩) hHeld ?rra10
                case hia10 => (simp only [List.getElem?_toArray, List.getElem?_cons_zero, List.getElem?_cons_succ]; rfl)
                case hqa10 => exact fun _ _ _ h => h
                case hwa10 => rfl
                case hha10 => (intro w hSw; (try dsimp only at hSw); go_simp; try with_reducible rfl)
                try simp only [Act.put, List.setIfInBounds_toArray, List.set_cons_zero, List.set_cons_succ]
                refine wpAnyH_take (i := 11) (oi := ?ooa11) (v := ?vva11) ?hia11 (by kernel_rfl) (by kernel_rfl) (by kernel_rfl) ?hqa11 (Or.inl ⟨?hwa11, ?hha11⟩) hHeld ?rra11
                case hia11 => (simp only [List.getElem?_toArray, List.getElem?_cons_zero, List.getElem?_cons_succ]; rfl)
                case hqa11 => exact fun _ _ _ h => h
                case hwa11 => rfl
                case hha11 => (intro w hSw; (try dsimp only at hSw); go_simp; try with_reducible rfl)
                try simp only [Act.put, List.setIfInBounds_toArray, List.set_cons_zero, List.set_cons_succ]
                refine wpAnyH_take (i := 12) (oi := ?ooa12) (v := ?vva12) ?hia12 (by kernel_rfl) (by kernel_rfl) (by kernel_rfl) ?hqa12 (Or.inl ⟨?hwa12, ?hha12⟩) hHeld ?rra12
                case hia12 => (simp only [List.getElem?_toArray, List.getElem?_cons_zero, List.getElem?_cons_succ]; rfl)
                case hqa12 => exact fun _ _ _ h => h
                case hwa12 => rfl
                case hha12 => (intro w hSw; (try dsimp only at hSw); go_simp; try with_reducible rfl)
                try simp only [Act.put, List.setIfInBounds_toArray, List.set_cons_zero, List.set_cons_succ]
                refine wpAnyH_take (i := 13) (oi := ?ooa13) (v := ?vva13) ?hia13 (by kernel_rfl) (by kernel_rfl) (by kernel_rfl) ?hqa13 (Or.inl ⟨?hwa13, ?hha13⟩) hHeld ?rra13
                case hia13 => (simp only [List.getElem?_toArray, List.getElem?_cons_zero, List.getElem?_cons_succ]; rfl)
                case hqa13 => exact fun _ _ _ h => h
                case hwa13 => rfl
                case hha13 => (intro w hSw; (try dsimp only at hSw); go_simp; try with_reducible rfl)
                try simp only [Act.put, List.setIfInBounds_toArray, List.set_cons_zero, List.set_cons_succ]
                refine wpAnyH_take (i := 14) (oi := ?ooa14) (v := undef) ?hia14 (by kernel_rfl) (by kernel_rfl) (by kernel_rfl) ?hqa14 (Or.inr ⟨?hwa14, rfl⟩) hHeld ?rra14
                case hia14 => (simp only [List.getElem?_toArray, List.getElem?_cons_zero, List.getElem?_cons_succ]; rfl)
                case hqa14 => exact fun _ _ _ h => h
                case hwa14 => rfl
                try simp only [Act.put, List.setIfInBounds_toArray, List.set_cons_zero, List.set_cons_succ]
                refine wpAnyH_take (i := 15) (oi := ?ooa15) (v := undef) ?hia15 (by kernel_rfl) (by kernel_rfl) (by kernel_rfl) ?hqa15 (Or.inr ⟨?hwa15, rfl⟩) hHeld ?rra15
                case hia15 => (simp only [List.getElem?_toArray, List.getElem?_cons_zero, List.getElem?_cons_succ]; rfl)
                case hqa15 => exact fun _ _ _ h => h
                case hwa15 => rfl
                try simp only [Act.put, List.setIfInBounds_toArray, List.set_cons_zero, List.set_cons_succ]
                refine wpAnyH_take (i := 16) (oi := ?ooa16) (v := undef) ?hia16 (by kernel_rfl) (by kernel_rfl) (by kernel_rfl) ?hqa16 (Or.inr ⟨?hwa16, rfl⟩) hHeld ?rra16
                case hia16 => (simp only [List.getElem?_toArray, List.getElem?_cons_zero, List.getElem?_cons_succ]; rfl)
                case hqa16 => exact fun _ _ _ h => h
                case hwa16 => rfl
                try simp only [Act.put, List.setIfInBounds_toArray, List.set_cons_zero, List.set_cons_succ]
                refine wpAnyH_take (i := 17) (oi := ?ooa17) (v := undef) ?hia17 (by kernel_rfl) (by kernel_rfl) (by kernel_rfl) ?hqa17 (Or.inr ⟨?hwa17, rfl⟩) hHeld ?rra17
                case hia17 => (simp only [List.getElem?_toArray, List.getElem?_cons_zero, List.getElem?_cons_succ]; rfl)
                case hqa17 => exact fun _ _ _ h => h
                case hwa17 => rfl
                try simp only [Act.put, List.setIfInBounds_toArray, List.set_cons_zero, List.set_cons_succ]
                refine wpAnyH_take (i := 18) (oi := ?ooa18) (v := undef) ?hia18 (by kernel_rfl) (by kernel_rfl) (by kernel_rfl) ?hqa18 (Or.inr ⟨?hwa18, rfl⟩) hHeld ?rra18
                case hia18 => (simp only [List.getElem?_toArray, List.getElem?_cons_zero, List.getElem?_cons_succ]; rfl)
                case hqa18 => exact fun _ _ _ h => h
                case hwa18 => rfl
                try simp only [Act.put, List.setIfInBounds_toArray, List.set_cons_zero, List.set_cons_succ]
                refine wpAnyH_take (i := 19) (oi := ?ooa19) (v := undef) ?hia19 (by kernel_rfl) (by kernel_rfl) (by kernel_rfl) ?hqa19 (Or.inr ⟨?hwa19, rfl⟩) hHeld ?rra19
                case hia19 => (simp only [List.getElem?_toArray, List.getElem?_cons_zero, List.getElem?_cons_succ]; rfl)
                case hqa19 => exact fun _ _ _ h => h
                case hwa19 => rfl
                try simp only [Act.put, List.setIfInBounds_toArray, List.set_cons_zero, List.set_cons_succ]
                refine wpAnyH_take (i := 20) (oi := ?ooa20) (v := undef) ?hia20 (by kernel_rfl) (by kernel_rfl) (by kernel_rfl) ?hqa20 (Or.inr ⟨?hwa20, rfl⟩) hHeld ?rra20
                case hia20 => (simp only [List.getElem?_toArray, List.getElem?_cons_zero, List.getElem?_cons_succ]; rfl)
                case hqa20 => exact fun _ _ _ h => h
                case hwa20 => rfl
                try simp only [Act.put, List.setIfInBounds_toArray, List.set_cons_zero, List.set_cons_succ]
                refine wpAnyH_take (i := 21) (oi := ?ooa21) (v := ?vva21) ?hia21 (by kernel_rfl) (by kernel_rfl) (by kernel_rfl) ?hqa21 (Or.inl ⟨?hwa21, ?hha21⟩) hHeld ?rra21
                case hia21 => (simp only [List.getElem?_toArray, List.getElem?_cons_zero, List.getElem?_cons_succ]; rfl)
                case hqa21 => exact fun _ _ _ h => h
                case hwa21 => rfl
                case hha21 => (intro w hSw; (try dsimp only at hSw); go_simp; try with_reducible rfl)
                try simp only [Act.put, List.setIfInBounds_toArray, List.set_cons_zero, List.set_cons_succ]
                refine wpAnyH_take (i := 22) (oi := ?ooa22) (v := ?vva22) ?hia22 (by kernel_rfl) (by kernel_rfl) (by kernel_rfl) ?hqa22 (Or.inl ⟨?hwa22, ?hha22⟩) hHeld ?rra22
                case hia22 => (simp only [List.getElem?_toArray, List.getElem?_cons_zero, List.getElem?_cons_succ]; rfl)
                case hqa22 => exact fun _ _ _ h => h
                case hwa22 => rfl
                case hha22 => (intro w hSw; (try dsimp only at hSw); go_simp; try with_reducible rfl)
                try simp only [Act.put, List.setIfInBounds_toArray, List.set_cons_zero, List.set_cons_succ]
                refine wpAnyH_done (by kernel_rfl) ?_ _
                go_wp2_with fail
                go_roundw
                case rel => exact ⟨k + 1, by omega, by go_num, HI2.out, HF2.out, HB2.out⟩
                case measure => simp [intOf]; omega
              · have e0 : ((j : Int) == 0) = false := by simp; omega
                have e0' : (j == 0) = false := by simp; omega
                have e1 : decide ((0 : Int) < j) = true := by simp; omega
                have e1' : decide (0 < j) = true := by simp; omega
                obtain ⟨g, rfl, hgb, hri⟩ := HR.out (by omega)
                obtain ⟨y, L2, hL⟩ : ∃ y L2, L = y :: L2 := by
                  rcases L with _ | ⟨y, L2⟩
                  · simp at hm; omega
                  · exact ⟨y, L2, rfl⟩
                have hf1 := hfst.out wr.drew HI.out.drew
                rw [hL, show ((hd1 (y :: L2) : Nat) : Int) - 1 = y by simp [hd1]] at hf1
                have cY := (hri.drew).cell 0 (by omega)
                have ey : L[0]'(by omega) = y := by simp [hL]
                rw [ey] at cY
                have HF1 := Lib.hid hf1
                have HRI := Lib.hid hri
                have HEY := Lib.hid (fun W (h : RowI W g cap L) => by have := h.cell 0 (by omega); rw [ey] at this; exact this)
                have hm0 : (0 : Int) < j := by omega
                have hm0n : 0 < j := by omega
                clear HB hB9 hf1 hfst
                clear ey h0 hj
                go_wp2_with fail
                refine wp_region_held_drew (S := fun W => W.cell? ⟨g, 0, none⟩ = some (.int .i64 (y : Int))) (by kernel_rfl) (cY) (fun hHeld => ?_)
                refine wpAnyH_take (i := 0) (oi := ?oob0) (v := ?vvb0) ?hib0 (by kernel_rfl) (by kernel_rfl) (by kernel_rfl) ?hqb0 (Or.inl ⟨?hwb0, ?hhb0⟩) hHeld ?rrb0
                case hib0 => (simp only [List.getElem?_toArray, List.getElem?_cons_zero, List.getElem?_cons_succ]; rfl)
                case hqb0 => exact fun _ _ _ h => h
                case hwb0 => rfl
                case hhb0 => (intro w hSw; (try dsimp only at hSw); go_simp; try with_reducible rfl)
                try simp only [Act.put, List.setIfInBounds_toArray, List.set_cons_zero, List.set_cons_succ]
                refine wpAnyH_take (i := 1) (oi := ?oob1) (v := ?vvb1) ?hib1 (by kernel_rfl) (by kernel_rfl) (by kernel_rfl) ?hqb1 (Or.inl ⟨?hwb1, ?hhb1⟩) hHeld ?rrb1
                case hib1 => (simp only [List.getElem?_toArray, List.getElem?_cons_zero, List.getElem?_cons_succ]; rfl)
                case hqb1 => exact fun _ _ _ h => h
                case hwb1 => rfl
                case hhb1 => (intro w hSw; (try dsimp only at hSw); go_simp; try with_reducible rfl)
                try simp only [Act.put, List.setIfInBounds_toArray, List.set_cons_zero, List.set_cons_succ]
                refine wpAnyH_take (i := 2) (oi := ?oob2) (v := ?vvb2) ?hib2 (by kernel_rfl) (by kernel_rfl) (by kernel_rfl) ?hqb2 (Or.inl ⟨?hwb2, ?hhb2⟩) hHeld ?rrb2
                case hib2 => (simp only [List.getElem?_toArray, List.getElem?_cons_zero, List.getElem?_cons_succ]; rfl)
                case hqb2 => exact fun _ _ _ h => h
                case hwb2 => rfl
                case hhb2 => (intro w hSw; (try dsimp only at hSw); go_simp; try with_reducible rfl)
                try simp only [Act.put, List.setIfInBounds_toArray, List.set_cons_zero, List.set_cons_succ]
                refine wpAnyH_take (i := 3) (oi := ?oob3) (v := ?vvb3) ?hib3 (by kernel_rfl) (by kernel_rfl) (by kernel_rfl) ?hqb3 (Or.inl ⟨?hwb3, ?hhb3⟩) hHeld ?rrb3
                case hib3 => (simp only [List.getElem?_toArray, List.getElem?_cons_zero, List.getElem?_cons_succ]; rfl)
                case hqb3 => exact fun _ _ _ h => h
                case hwb3 => rfl
                case hhb3 => (intro w hSw; (try dsimp only at hSw); go_simp; try with_reducible rfl)
                try simp only [Act.put, List.setIfInBounds_toArray, List.set_cons_zero, List.set_cons_succ]
                refine wpAnyH_take (i := 4) (oi := ?oob4) (v := undef) ?hib4 (by kernel_rfl) (by kernel_rfl) (by kernel_rfl) ?hqb4 (Or.inr ⟨?hwb4, rfl⟩) hHeld ?rrb4
                case hib4 => (simp only [List.getElem?_toArray, List.getElem?_cons_zero, List.getElem?_cons_succ]; rfl)
                case hqb4 => exact fun _ _ _ h => h
                case hwb4 => rfl
                try simp only [Act.put, List.setIfInBounds_toArray, List.set_cons_zero, List.set_cons_succ]
                refine wpAnyH_take (i := 5) (oi := ?oob5) (v := undef) ?hib5 (by kernel_rfl) (by kernel_rfl) (by kernel_rfl) ?hqb5 (Or.inr ⟨?hwb5, rfl⟩) hHeld ?rrb5
                case hib5 => (simp only [List.getElem?_toArray, List.getElem?_cons_zero, List.getElem?_cons_succ]; rfl)
                case hqb5 => exact fun _ _ _ h => h
                case hwb5 => rfl
                try simp only [Act.put, List.setIfInBounds_toArray, List.set_cons_zero, List.set_cons_succ]
                refine wpAnyH_take (i := 6) (oi := ?oob6) (v := undef) ?hib6 (by kernel_rfl) (by kernel_rfl) (by kernel_rfl) ?hqb6 (Or.inr ⟨?hwb6, rfl⟩) hHeld ?rrb6
                case hib6 => (simp only [List.getElem?_toArray, List.getElem?_cons_zero, List.getElem?_cons_succ]; rfl)
                case hqb6 => exact fun _ _ _ h => h
                case hwb6 => rfl
                try simp only [Act.put, List.setIfInBounds_toArray, List.set_cons_zero, List.set_cons_succ]
                refine wpAnyH_take (i := 7) (oi := ?oob7) (v := undef) ?hib7 (by kernel_rfl) (by kernel_rfl) (by kernel_rfl) ?hqb7 (Or.inr ⟨?hwb7, rfl⟩) hHeld ?rrb7
                case hib7 => (simp only [List.getElem?_toArray, List.getElem?_cons_zero, List.getElem?_cons_succ]; rfl)
                case hqb7 => exact fun _ _ _ h => h
                case hwb7 => rfl
                try simp only [Act.put, List.setIfInBounds_toArray, List.set_cons_zero, List.set_cons_succ]
                refine wpAnyH_take (i := 8) (oi := ?oob8) (v := ?vvb8) ?hib8 (by kernel_rfl) (by kernel_rfl) (by kernel_rfl) ?hqb8 (Or.inl ⟨?hwb8, ?hhb8⟩) hHeld ?rrb8
                case hib8 => (simp only [List.getElem?_toArray, List.getElem?_cons_zero, List.getElem?_cons_succ]; rfl)
                case hqb8 => exact fun _ _ _ h => h
                case hwb8 => rfl
                case hhb8 => (intro w hSw; (try dsimp only at hSw); go_simp; try with_reducible rfl)
                try simp only [Act.put, List.setIfInBounds_toArray, List.set_cons_zero, List.set_cons_succ]
                refine wpAnyH_take (i := 9) (oi := ?oob9) (v := ?vvb9) ?hib9 (by kernel_rfl) (by kernel_rfl) (by kernel_rfl) ?hqb9 (Or.inl ⟨?hwb9, ?hhb9⟩) hHeld ?rrb9
                case hib9 => (simp only [List.getElem?_toArray, List.getElem?_cons_zero, List.getElem?_cons_succ]; rfl)
                case hqb9 => exact fun _ _ _ h => h
                case hwb9 => rfl
                case hhb9 => (intro w hSw; (try dsimp only at hSw); go_simp; try with_reducible rfl)
                try simp only [Act.put, List.setIfInBounds_toArray, List.set_cons_zero, List.set_cons_succ]
                refine wpAnyH_take (i := 10) (oi := ?oob10) (v := ?vvb10) ?hib10 (by kernel_rfl) (by kernel_rfl) (by kernel_rfl) ?hqb10 (Or.inl ⟨?hwb10, ?hhb10⟩) hHeld ?rrb10
                case hib10 => (simp only [List.getElem?_toArray, List.getElem?_cons_zero, List.getElem?_cons_succ]; rfl)
                case hqb10 => exact fun _ _ _ h => h
                case hwb10 => rfl
                case hhb10 => (intro w hSw; (try dsimp only at hSw); go_simp; try with_reducible rfl)
                try simp only [Act.put, List.setIfInBounds_toArray, List.set_cons_zero, List.set_cons_succ]
                refine wpAnyH_take (i := 11) (oi := ?oob11) (v := ?vvb11) ?hib11 (by kernel_rfl) (by kernel_rfl) (by kernel_rfl) ?hqb11 (Or.inl ⟨?hwb11, ?hhb11⟩) hHeld ?rrb11
                case hib11 => (simp only [List.getElem?_toArray, List.getElem?_cons_zero, List.getElem?_cons_succ]; rfl)
                case hqb11 => exact fun _ _ _ h => h
                case hwb11 => rfl
                case hhb11 => (intro w hSw; (try dsimp only at hSw); go_simp; try with_reducible rfl)
                try simp only [Act.put, List.setIfInBounds_toArray, List.set_cons_zero, List.set_cons_succ]
                refine wpAnyH_take (i := 12) (oi := ?oob12) (v := ?vvb12) ?hib12 (by kernel_rfl) (by kernel_rfl) (by kernel_rfl) ?hqb12 (Or.inl ⟨?hwb12, ?hhb12⟩) hHeld ?rrb12
                case hib12 => (simp only [List.getElem?_toArray, List.getElem?_cons_zero, List.getElem?_cons_succ]; rfl)
                case hqb12 => exact fun _ _ _ h => h
                case hwb12 => rfl
                case hhb12 => (intro w hSw; (try dsimp only at hSw); go_simp; try with_reducible rfl)
                try simp only [Act.put, List.setIfInBounds_toArray, List.set_cons_zero, List.set_cons_succ]
                refine wpAnyH_take (i := 13) (oi := ?oob13) (v := ?vvb13) ?hib13 (by kernel_rfl) (by kernel_rfl) (by kernel_rfl) ?hqb13 (Or.inl ⟨?hwb13, ?hhb13⟩) hHeld ?rrb13
                case hib13 => (simp only [List.getElem?_toArray, List.getElem?_cons_zero, List.getElem?_cons_succ]; rfl)
                case hqb13 => exact fun _ _ _ h => h
                case hwb13 => rfl
                case hhb13 => (intro w hSw; (try dsimp only at hSw); go_simp; try with_reducible rfl)
                try simp only [Act.put, List.setIfInBounds_toArray, List.set_cons_zero, List.set_cons_succ]
                refine wpAnyH_take (i := 14) (oi := ?oob14) (v := ?vvb14) ?hib14 (by kernel_rfl) (by kernel_rfl) (by kernel_rfl) ?hqb14 (Or.inl ⟨?hwb14, ?hhb14⟩) hHeld ?rrb14
                case hib14 => (simp only [List.getElem?_toArray, List.getElem?_cons_zero, List.getElem?_cons_succ]; rfl)
                case hqb14 => exact fun _ _ _ h => h
                case hwb14 => rfl
                case hhb14 => (intro w hSw; (try dsimp only at hSw); go_simp; try with_reducible rfl)
                try simp only [Act.put, List.setIfInBounds_toArray, List.set_cons_zero, List.set_cons_succ]
                refine wpAnyH_take (i := 15) (oi := ?oob15) (v := ?vvb15) ?hib15 (by kernel_rfl) (by kernel_rfl) (by kernel_rfl) ?hqb15 (Or.inl ⟨?hwb15, ?hhb15⟩) hHeld ?rrb15
                case hib15 => (simp only [List.getElem?_toArray, List.getElem?_cons_zero, List.getElem?_cons_succ]; rfl)
                case hqb15 => exact fun _ _ _ h => h
                case hwb15 => rfl
                case hhb15 => (intro w hSw; (try dsimp only at hSw); go_simp; try with_reducible rfl)
                try simp only [Act.put, List.setIfInBounds_toArray, List.set_cons_zero, List.set_cons_succ]
                refine wpAnyH_take (i := 17) (oi := ?oob16) (v := ?vvb16) ?hib16 (by kernel_rfl) (by kernel_rfl) (by kernel_rfl) ?hqb16 (Or.inl ⟨?hwb16, ?hhb16⟩) hHeld ?rrb16
                case hib16 => (simp only [List.getElem?_toArray, List.getElem?_cons_zero, List.getElem?_cons_succ]; rfl)
                case hqb16 => exact fun _ _ _ h => h
                case hwb16 => rfl
                case hhb16 => (intro w hSw; (try dsimp only at hSw); go_simp; try with_reducible rfl)
                try simp only [Act.put, List.setIfInBounds_toArray, List.set_cons_zero, List.set_cons_succ]
                refine wpAnyH_take (i := 18) (oi := ?oob17) (v := ?vvb17) ?hib17 (by kernel_rfl) (by kernel_rfl) (by kernel_rfl) ?hqb17 (Or.inl ⟨?hwb17, ?hhb17⟩) hHeld ?rrb17
                case hib17 => (simp only [List.getElem?_toArray, List.getElem?_cons_zero, List.getElem?_cons_succ]; rfl)
                case hqb17 => exact fun _ _ _ h => h
                case hwb17 => rfl
                case hhb17 => (intro w hSw; (try dsimp only at hSw); go_simp; try with_reducible rfl)
                try simp only [Act.put, List.setIfInBounds_toArray, List.set_cons_zero, List.set_cons_succ]
                refine wpAnyH_take (i := 19) (oi := ?oob18) (v := ?vvb18) ?hib18 (by kernel_rfl) (by kernel_rfl) (by kernel_rfl) ?hqb18 (Or.inl ⟨?hwb18, ?hhb18⟩) hHeld ?rrb18
                case hib18 => (simp only [List.getElem?_toArray, List.getElem?_cons_zero, List.getElem?_cons_succ]; rfl)
                case hqb18 => exact fun _ _ _ h => h
                case hwb18 => rfl
                case hhb18 => (intro w hSw; (try dsimp only at hSw); go_simp; try with_reducible rfl)
                try simp only [Act.put, List.setIfInBounds_toArray, List.set_cons_zero, List.set_cons_succ]
                refine wpAnyH_ready (rs := [16]) (by kernel_rfl) (by simp) ?_
                refine AllReadyH.cons (o := ?oob19) ?hib19 (fun K hK => ?hcb19) AllReadyH.nil
                case hib19 => (simp only [List.getElem?_toArray, List.getElem?_cons_zero, List.getElem?_cons_succ]; rfl)
                go_simp
                with_reducible refine HF1.out.mono ?_
                rintro e W2 ⟨rfl, hI2, hf2⟩
                have HI2 := Lib.hid hI2
                have HF2 := Lib.hid (HF.out.drew.step hf2 (fun k hk => .inr (HQ.out k hk)))
                have HB2 := Lib.hid (HB9.out.drew.fr hf2 hgs)
                have cY := HEY.out _ (HRI.out.drew.fr hf2 (fun hm => by have := hqb g hm; omega))
                clear hI2 hf2
                go_wp2_with fail
                refine hK.out _ _ (cY) (fun hHeld => ?_)
                clear hK K
                try simp only [Act.put, List.setIfInBounds_toArray, List.set_cons_zero, List.set_cons_succ]
                refine wpAnyH_take (i := 20) (oi := ?oob20) (v := ?vvb20) ?hib20 (by kernel_rfl) (by kernel_rfl) (by kernel_rfl) ?hqb20 (Or.inl ⟨?hwb20, ?hhb20⟩) hHeld ?rrb20
                case hib20 => (simp only [List.getElem?_toArray, List.getElem?_cons_zero, List.getElem?_cons_succ]; rfl)
                case hqb20 => exact fun _ _ _ h => h
                case hwb20 => rfl
                case hhb20 => (intro w hSw; (try dsimp only at hSw); go_simp; try with_reducible rfl)
                try simp only [Act.put, List.setIfInBounds_toArray, List.set_cons_zero, List.set_cons_succ]
                refine wpAnyH_take (i := 21) (oi := ?oob21) (v := ?vvb21) ?hib21 (by kernel_rfl) (by kernel_rfl) (by kernel_rfl) ?hqb21 (Or.inl ⟨?hwb21, ?hhb21⟩) hHeld ?rrb21
                case hib21 => (simp only [List.getElem?_toArray, List.getElem?_cons_zero, List.getElem?_cons_succ]; rfl)
                case hqb21 => exact fun _ _ _ h => h
                case hwb21 => rfl
                case hhb21 => (intro w hSw; (try dsimp only at hSw); go_simp; try with_reducible rfl)
                try simp only [Act.put, List.setIfInBounds_toArray, List.set_cons_zero, List.set_cons_succ]
                refine wpAnyH_take (i := 22) (oi := ?oob22) (v := ?vvb22) ?hib22 (by kernel_rfl) (by kernel_rfl) (by kernel_rfl) ?hqb22 (Or.inl ⟨?hwb22, ?hhb22⟩) hHeld ?rrb22
                case hib22 => (simp only [List.getElem?_toArray, List.getElem?_cons_zero, List.getElem?_cons_succ]; rfl)
                case hqb22 => exact fun _ _ _ h => h
                case hwb22 => rfl
                case hhb22 => (intro w hSw; (try dsimp only at hSw); go_simp; try with_reducible rfl)
                try simp only [Act.put, List.setIfInBounds_toArray, List.set_cons_zero, List.set_cons_succ]
                refine wpAnyH_done (by kernel_rfl) ?_ _
                go_wp2_with fail
                go_roundw
                case rel => exact ⟨k + 1, by omega, by go_num, HI2.out, HF2.out, HB2.out⟩
                case measure => simp [intOf]; omega
        · have b4 : decide ((k : Int) < 10) = false := by simp; omega
          have b4' : decide (k < 10) = false := by simp; omega
          have HLE := Lib.hid (fun i => seen_le inn k [] 0 i)
          clear HLS hlt hk
          go_wp2_with fail
          go_loopw [9] (fun v W => ∃ i : Nat, i ≤ 16 ∧ v = .int .i64 i ∧ Fr [] w W ∧ Blk W gs 3 (intsF 16 (seenF inn k [] 0))) (fun v _ => 16 - (intOf v).toNat)
          case atStart => exact ⟨0, by omega, rfl, HF.out, HB.out⟩
          case round =>
            clear HF HB HI
            obtain ⟨i, hi, rfl, hF, hB⟩ := hrel
            have HF := Lib.hid hF
            have HB := Lib.hid hB
            by_cases hlt : i < 16
            · have cS := hB.cellF i hlt
              have hv1 := HLE.out i
              generalize seenF inn k [] 0 i = v at *
              have b5 : decide ((i : Int) < 16) = true := by simp; omega
              have b5' : decide (i < 16) = true := by simp; omega
              have b6 : decide (1 < v) = false := by simp; omega
              have w9 : IntKind.i64.wrap ((i : Int) + 1) = (i : Int) + 1 := IntWalk.i64_in _ (by omega)
              have hg1 : (0 : Int) ≤ i := by omega
              have hg2 : (i : Int) < 16 := by omega
              clear hF hB hv1
              go_wp2_with fail
              go_roundw
              case rel => exact ⟨i + 1, by omega, by go_num, HF.out, HB.out⟩
              case measure => simp [intOf]; omega
            · have b5 : decide ((i : Int) < 16) = false := by simp; omega
              have b5' : decide (i < 16) = false := by simp; omega
              have hL := HL.out _ HF.out
              clear hF hB hlt
              go_wp2_with fail
              with_reducible refine hL.mono ?_
              rintro e w9 ⟨rfl, f9⟩
              go_wp2_with fail
              go_ret
              exact ⟨rfl, HF.out.trans f9⟩
end Go.Proofs.YtcagljjbiodcoaaDoor
