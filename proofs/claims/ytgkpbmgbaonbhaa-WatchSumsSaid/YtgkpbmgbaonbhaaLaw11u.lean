/- The walk of WatchSums, its loops. -/
import Derived.Test.YtgkpbmgbaonbhaaLaw11s
namespace Go.Proofs.Ytgkpbmgbaonbhaa
open Go.RowKit
set_option linter.unusedVariables false

def W3cell (w : World) (g o : Nat) (k : Nat) : Prop := w.cell? ⟨g, o, none⟩ = some (.int .i64 (k : Int))

/-- At each round's head over the rows. -/
def SumRel (B : World) (p b g cap : Nat) (G : Nat) (ks : List Nat) (u v : Value) (wr : World) : Prop :=
  ∃ t : Nat, t ≤ (runs ks).length ∧ u = .int .i64 ((4 * lenRuns ((runs ks).take t) : Nat) : Int) ∧ v = .int .i64 t ∧ IsW wr p b ks 0 0 ∧ Below B.heap.size B wr ∧
    wr.ownsRow B.heap.size 48 3 (.slice (some ⟨g, 0, none⟩) (runs ks).length cap) (runs ks).length (xCells ((runs ks).map scale4)) ∧ Blk wr G 3 (ints (sumsOf ((runs ks).take t)))

def AllRel (B : World) (p b : Nat) (G : Nat) (ks : List Nat) (u v : Value) (wr : World) : Prop :=
  ∃ k : Nat, k ≤ 9 ∧ u = .int .i64 (allTo (runs ks) k) ∧ v = .int .i64 k ∧ IsW wr p b ks 0 0 ∧ Below B.heap.size B wr ∧ Blk wr G 3 (ints (sumsOf (runs ks)))
theorem allTo_le (l : List (Nat × Nat × Nat)) (k : Nat) : ∀ j, allTo l k ≤ allTo l (k + j)
  | 0 => Nat.le_refl _
  | j + 1 => Nat.le_trans (allTo_le l k j) (by rw [← Nat.add_assoc, allTo]; omega)

set_option maxRecDepth 100000 in
set_option maxHeartbeats 8000000 in
theorem sums_c (w : World) (m : Nat) (a : Option Addr) (len cap : Nat) (l : List (Int × Int × Int × Int)) (hm1 : 1 ≤ m) (hm2 : m ≤ 256) (hlen : len ≤ 60) (hl : Acts w a len l) :
    Calls Try.prog 5 #[.int .i64 (4 * m), .slice a len cap] w fun e w' => e = .returned (.bool true) ∧ Below w.heap.size w w' := by
  have h1 : (4 : Int) * m ≤ 1024 := by omega
  go_enter Try.func5, Try.ntmps5
  go_wp2_with fail
  refine (new_yes w m hm1 (by omega)).mono ?_
  rintro e w1 ⟨p, b, rfl, hw1, hp, hbb, f1⟩
  have hB1 : Below w.heap.size w w1 := f1.below (Nat.le_refl _) (by simp)
  clear f1
  go_wp2_with fail
  go_loopw [6] (fun i wr => MarksRel w p b m len i wr) (fun i _ => len - (intOf i).toNat)
  case atStart => exact ⟨0, Nat.zero_le _, rfl, _, hw1, by simp, hB1⟩
  case round =>
    clear hw1 hB1
    obtain ⟨t, ht, rfl, ks, hT, hks, hB⟩ := hrel
    by_cases hlt : t < len
    · obtain ⟨B, off, rfl, hBl, hcell⟩ := hl.2 (by omega)
      have hlt' : t < l.length := by rw [hl.1]; exact hlt
      obtain ⟨d0, d1, d2, d3⟩ := hcell t hlt'
      have e1 := (hB.cell (p := ⟨B, off + t * 4 + 1, none⟩) hBl).trans d1
      have e2 := (hB.cell (p := ⟨B, off + t * 4 + 2, none⟩) hBl).trans d2
      have e3 := (hB.cell (p := ⟨B, off + t * 4 + 3, none⟩) hBl).trans d3
      have hpl := hT.st.lt
      have hbl := hT.row.lt
      generalize l[t] = y at *
      obtain ⟨yk, yx, yn, yo⟩ := y
      simp only at e1 e2 e3
      clear d0 d1 d2 d3 hcell hl hlt'
      have hg2 : (0 : Int) ≤ t := by omega
      have hg3 : (t : Int) < len := by omega
      have HK := Lib.hid hks
      clear hks
      go_wp2_with fail
      go_region_held3 (fun w' => w'.cell? ⟨B, off + t * 4 + 1, none⟩ = some (.int .i64 yx) ∧ w'.cell? ⟨B, off + t * 4 + 2, none⟩ = some (.int .i64 yn) ∧ w'.cell? ⟨B, off + t * 4 + 3, none⟩ = some (.int .i64 yo)) (exact ⟨e1, e2, e3⟩)
        (first | (go_at_call 17; refine (mark_all _ p b ks 0 0 yx yn yo hT.drew).mono ?_; rintro e W2 ⟨rfl, hT2, f2⟩; have hB2 : Below w.heap.size w W2 := hB.trans (((frDrew (S := [])).join f2).below hB.size (by first | (simp; done) | (simp; omega))); have e1 := (hB2.cell (p := ⟨B, off + t * 4 + 1, none⟩) hBl).trans ((hB.cell (p := ⟨B, off + t * 4 + 1, none⟩) hBl).symm.trans e1); have e2 := (hB2.cell (p := ⟨B, off + t * 4 + 2, none⟩) hBl).trans ((hB.cell (p := ⟨B, off + t * 4 + 2, none⟩) hBl).symm.trans e2); have e3 := (hB2.cell (p := ⟨B, off + t * 4 + 3, none⟩) hBl).trans ((hB.cell (p := ⟨B, off + t * 4 + 3, none⟩) hBl).symm.trans e3)))
      go_wp2
      go_roundw
      case rel => exact ⟨t + 1, by omega, by go_num, _, hT2, by rw [newK_length]; exact HK.out, hB2⟩
      case measure => simp [intOf]; omega
    · clear hl
      go_wp2_with fail
      refine (runs_all wr p b ks 0 0 hT).mono ?_
      rintro e w2 ⟨v, rfl, ho2, f2⟩
      have hT2 := hT.fr f2 (by simp) (by simp)
      have hB2 : Below w.heap.size w w2 := hB.trans (f2.below hB.size (by simp))
      have hrl := runs_len ks
      have hrp : 0 < (runs ks).length := by
        rw [runs_from, runsFrom_step ks 0 (by omega)]; simp
      obtain ⟨r1, hr1⟩ : ∃ r1, (runs ks).length = r1 + 1 := ⟨(runs ks).length - 1, by omega⟩
      have hv : ∃ g cap, v = .slice (some ⟨g, 0, none⟩) (runs ks).length cap := by
        rw [hr1] at ho2 ⊢
        exact ownsRow_succ ho2
      obtain ⟨g, cap2, rfl⟩ := hv
      have ho3 : w2.ownsRow w.heap.size 48 3 (.slice (some ⟨g, 0, none⟩) (runs ks).length cap2) (runs ks).length (xCells ((runs ks).map scale4)) := by
        refine ⟨ho2.1, ?_⟩
        rcases ho2.2 with h0 | ⟨g', c', cur, e1, e2, e3⟩
        · exact .inl h0
        · exact .inr ⟨g', c', cur, e1, Nat.le_trans hB.size e2, e3⟩
      clear ho2 hr1 r1
      have hkm : ks.length ≤ 256 := by omega
      have HK := Lib.hid hks
      clear hks
      go_wp2_with fail
      go_loopw [8, 10] (fun u v W => SumRel w p b g cap2 w2.heap.size ks u v W) (fun _ v _ => (runs ks).length - (intOf v).toNat)
      case atStart => exact ⟨0, Nat.zero_le _, rfl, rfl, hT2.alloc _, hB2.alloc hB2.size _, ho3.alloc _, by rw [List.take_zero, sumsOf_nil]; exact Blk.new w2 3 (ints [0, 0, 0, 0, 0, 0, 0, 0, 0])⟩
      case round =>
        have hGw : w.heap.size ≤ w2.heap.size := hB2.size
        have hpb1 := hT2.st.lt
        have hpb2 := hT2.row.lt
        have hgb : g ≠ w2.heap.size := by have := (ho3.lt g rfl).2; omega
        clear hT2 hB2 ho3
        obtain ⟨t, ht, rfl, rfl, hT3, hB3, ho3, hG⟩ := hrel
        by_cases hlt : t < (runs ks).length
        · have hr := run_at ks hT3.le t hlt
          have hlx : t < ((runs ks).map scale4).length := by rw [List.length_map]; exact hlt
          obtain ⟨x1, x2, x3⟩ := xCells_get ((runs ks).map scale4) t hlx
          have hc1 := (ho3.cellAt (t * 3) (by omega)).trans x1
          have hc2 := (ho3.cellAt (t * 3 + 1) (by omega)).trans x2
          have hc3 := (ho3.cellAt (t * 3 + 2) (by omega)).trans x3
          have htk : (runs ks).take (t + 1) = (runs ks).take t ++ [(runs ks)[t]] := by rw [List.take_add_one, List.getElem?_eq_getElem hlt]; rfl
          have hst := sumsOf_snoc ((runs ks).take t) (runs ks)[t] hr.le
          rw [List.getElem_map] at hc1 hc2 hc3
          have hp := hr.pos
          have hprev : 0 < t → ∃ kp : Nat, W3cell wr g ((t - 1) * 3 + 2) kp ∧ kp ≠ (runs ks)[t].2.2 := fun h0 => by
            have hl2 : t - 1 < ((runs ks).map scale4).length := by rw [List.length_map]; omega
            obtain ⟨_, _, x4⟩ := xCells_get ((runs ks).map scale4) (t - 1) hl2
            rw [List.getElem_map] at x4
            refine ⟨_, (ho3.cellAt ((t - 1) * 3 + 2) (by omega)).trans x4, ?_⟩
            have := hr.ne h0
            rwa [List.getElem?_eq_getElem (by omega)] at this
          have hone := hr.one
          have hle8 := hr.le
          have hlen2 := hr.len
          have hkind := hr.kind
          generalize (runs ks)[t] = r at *
          obtain ⟨f, n, k⟩ := r
          simp only [scale4] at hc1 hc2 hc3 hst hp hprev hone hle8 hlen2 hkind
          have hlr : lenRuns ((runs ks).take (t + 1)) = f + n := by rw [htk, lenRuns_append, ← hp]; simp [lenRuns]
          have hsg := sumsOf_get ((runs ks).take t) k (by omega)
          rw [← htk] at hst
          have hgk := hG.cell k
          rw [ints_get _ _ (by rw [sumsOf_len]; omega), hsg] at hgk
          have hgf := hG.frozen k
          have hG2 := hG.set k (.int .i64 (((4 * sumRuns (k : Int) ((runs ks).take t) : Nat) : Int) + 4 * (n : Int)))
          rw [ints_set, ← hst] at hG2
          have hsr : sumRuns (k : Int) ((runs ks).take t) ≤ lenRuns ((runs ks).take t) := sumRuns_le _ _
          rw [← hp] at hsr ⊢
          generalize sumRuns (k : Int) ((runs ks).take t) = s at *
          have hfin : ∀ (W : World) (cs : Array Value) (nn : Nat), W = wr.alloc (.cells cs 48) → SumRel w p b g cap2 w2.heap.size ks (.int .i64 (4 * (f : Int) + 4 * n)) (.int .i64 ((t : Int) + 1)) ((W.drewN nn).setCell ⟨w2.heap.size, k, none⟩ (.int .i64 (((4 * s : Nat) : Int) + 4 * (n : Int)))) := fun W cs nn e => by
            subst e
            have fA : Fr [w2.heap.size] wr (((wr.alloc (.cells cs 48)).drewN nn).setCell ⟨w2.heap.size, k, none⟩ (.int .i64 (((4 * s : Nat) : Int) + 4 * (n : Int)))) := (((Fr.refl _ wr).alloc _).drewN nn).setCell (.inl (by simp)) _
            refine ⟨t + 1, by omega, by rw [hlr]; congr 1; omega, by go_num, hT3.fr fA (by simp; omega) (by simp; omega), hB3.trans (fA.below hB3.size (by simp; omega)), ?_, ?_⟩
            · exact ownsRow_setCell_other (show ((wr.alloc (.cells cs 48)).drewN nn).ownsRow _ _ _ _ _ _ from ho3.alloc _) (by simp [Value.ownBlock]; omega) _
            · exact ((hG.alloc _).drewN nn).set k _ |> fun h => by rw [ints_set, ← hst] at h; exact h
          have hf8 : (f : Int) ≤ 256 := by omega
          have hn8 : (n : Int) ≤ 256 := by omega
          have hs8 : (s : Int) ≤ 256 := by omega
          have hk8 : (k : Int) ≤ 8 := by omega
          have b1 : decide (4 * (n : Int) < 1) = false := by simp; omega
          have b2 : decide ((k : Int) < 0) = false := by simp
          have b3 : decide (8 < (k : Int)) = false := by simp; omega
          have hka : ∀ nn, Calls Try.prog 13 #[.pointer (some ⟨p, 0, none⟩), .int .i64 (4 * (f : Int)), .int .i64 (4 * (n : Int))] ((wr.alloc (.cells #[.int .i64 (4 * (f : Int)), .int .i64 (4 * (n : Int)), .int .i64 k] 48)).drewN nn) _ := fun nn => by
            have := kind_all ((wr.alloc (.cells #[.int .i64 (4 * (f : Int)), .int .i64 (4 * (n : Int)), .int .i64 k] 48)).drewN nn) p b ks 0 0 (4 * f) (4 * n) ((hT3.alloc _).drewN nn)
            rw [hkind] at this
            exact quiet_left this
          have hc1' : wr.cell? ⟨g, t * 3, none⟩ = some (.int .i64 (4 * (f : Int))) := hc1
          have hc2' : wr.cell? ⟨g, t * 3 + 1, none⟩ = some (.int .i64 (4 * (n : Int))) := hc2
          have ht0 : (0 : Int) ≤ t := by omega
          have ht1 : (t : Int) < (runs ks).length := by omega
          have hgk' : ∀ o, (wr.alloc o).cell? ⟨w2.heap.size, k, none⟩ = some (.int .i64 ((4 * s : Nat) : Int)) := fun o => (((Below.refl wr.heap.size wr).alloc (Nat.le_refl _) o).cell (p := ⟨w2.heap.size, k, none⟩) hG.lt).trans hgk
          have hgf' : ∀ o, (wr.alloc o).frozen? ⟨w2.heap.size, k, none⟩ = false := fun o => (hG.alloc o).frozen k
          clear hgf hgk
          have HF := Lib.hid @hfin
          have HP := Lib.hid hprev
          clear hfin hprev hc1 hc2 hst hG2 hlr htk hsg hr x1 x2 x3 hp hkind hone
          by_cases h0 : 0 < t
          · obtain ⟨kp, hkp, hne⟩ := HP.out h0
            have hkp' : ∀ o, (wr.alloc o).cell? ⟨g, (t - 1) * 3 + 2, none⟩ = some (.int .i64 (kp : Int)) := fun o => (((Below.refl wr.heap.size wr).alloc (Nat.le_refl _) o).cell (p := ⟨g, (t - 1) * 3 + 2, none⟩) (ho3.lt g rfl).2).trans hkp
            have b4 : ((k : Int) == (kp : Int)) = false := by simp; omega
            have ht2 : (1 : Int) ≤ (t : Int) := by omega
            have ht3 : (t : Int) - 1 < (runs ks).length := by omega
            have ht4 : ((t : Int) - 1).toNat = t - 1 := by omega
            have ht5 : IntKind.i64.wrap ((t : Int) - 1) = (t : Int) - 1 := IntWalk.i64_in _ (by omega)
            clear hkp hne HP
            go_wp2_with fail
            go_quiet ((go_at_call 13; exact hka _))
            go_wp2_with fail
            go_region
            go_wp2
            go_roundw
            case rel => have h9 := HF.out _ #[.int .i64 (4 * (f : Int)), .int .i64 (4 * (n : Int)), .int .i64 k] (nq + 1) rfl; simpa using h9
            case measure => simp [intOf]; omega
          · have h0' : t = 0 := by omega
            subst h0'
            clear HP
            go_wp2_with fail
            go_quiet ((go_at_call 13; exact hka _))
            go_wp2_with fail
            go_region
            go_wp2
            go_roundw
            case rel => have h9 := HF.out _ #[.int .i64 (4 * (f : Int)), .int .i64 (4 * (n : Int)), .int .i64 k] (nq + 1) rfl; simpa using h9
            case measure => simp [intOf]; omega
        · have ht0 : t = (runs ks).length := by omega
          subst ht0
          rw [List.take_length] at hG
          rw [List.take_length, lenRuns_all, HK.out, show ((4 * m : Nat) : Int) = 4 * (m : Int) by omega]
          have hall := allTo_all (runs ks) (runs_le8 ks hT3.le)
          rw [lenRuns_all, HK.out] at hall
          have hs9 := sumL_nine ks hT3.le
          clear ht hlt hgb
          go_wp2_with fail
          go_loopw [12, 13] (fun u v W => AllRel w p b w2.heap.size ks u v W) (fun _ v _ => 9 - (intOf v).toNat)
          case atStart => exact ⟨0, Nat.zero_le _, rfl, rfl, hT3, hB3, hG⟩
          case round =>
            clear hT3 hB3 hG
            obtain ⟨k, hk, rfl, rfl, hT4, hB4, hG⟩ := hrel
            by_cases hlt : k < 9
            · have hA := allTo_le (runs ks) (k + 1) (9 - (k + 1))
              rw [show k + 1 + (9 - (k + 1)) = 9 by omega, hall] at hA
              have hA1 : allTo (runs ks) (k + 1) = allTo (runs ks) k + 4 * sumRuns (k : Int) (runs ks) := rfl
              have hgk := hG.cell k
              rw [ints_get _ _ (by rw [sumsOf_len]; omega), sumsOf_get _ _ hlt] at hgk
              have hS : ∀ W, IsW W p b ks 0 0 → Calls Try.prog 15 #[.pointer (some ⟨p, 0, none⟩), .int .i64 (k : Int)] W fun e w' => e = .returned (.int .i64 ((4 * sumRuns (k : Int) (runs ks) : Nat) : Int)) ∧ Fr [] W w' := fun W hW => sum_all W p b ks 0 0 k hW
              have hAr : ∀ W, IsW W p b ks 0 0 → Below w.heap.size w W → Blk W w2.heap.size 3 (ints (sumsOf (runs ks))) → AllRel w p b w2.heap.size ks (.int .i64 ((allTo (runs ks) k : Int) + 4 * (sumRuns (k : Int) (runs ks) : Nat))) (.int .i64 ((k : Int) + 1)) W := fun W h1 h2 h3 =>
                ⟨k + 1, by omega, by first | (rw [hA1]; done) | (rw [hA1]; congr 1; done) | (rw [hA1]; congr 1; omega), by go_num, h1, h2, h3⟩
              generalize sumRuns (k : Int) (runs ks) = s at *
              rw [hA1] at hA
              generalize allTo (runs ks) k = A at *
              clear hA1 hall hs9
              have ha8 : (A : Int) ≤ 1024 := by omega
              have hs8 : (s : Int) ≤ 256 := by omega
              have hk0 : (0 : Int) ≤ k := by omega
              have hk8 : (k : Int) < 9 := by omega
              have hW9 := HK.out
              have hAr' := Lib.hid hAr
              clear hAr
              go_wp2_with fail
              go_region_held3 (fun w' => w'.cell? ⟨w2.heap.size, k, none⟩ = some (.int .i64 ((4 * s : Nat) : Int))) (exact hgk)
                (first | (go_at_call 15; refine (hS _ hT4.drew).mono ?_; rintro e W2 ⟨rfl, f2⟩; have hT5 := hT4.fr (frDrew.trans f2) (by simp) (by simp); have hB5 := hB4.trans ((frDrew.trans f2).below hB4.size (by simp)); have hG5 := hG.fr (frDrew.trans f2) (by simp); have hgk := (((frDrew (S := [])).trans f2).cell (p := ⟨w2.heap.size, k, none⟩) hG.lt (by simp)).trans hgk))
              go_wp2
              go_roundw
              case rel => exact hAr'.out _ hT5 hB5 hG5
              case measure => simp [intOf]; omega
            · have hk9 : k = 9 := by omega
              subst hk9
              rw [hall]
              have hS : ∀ W, IsW W p b ks 0 0 → Calls Try.prog 15 #[.pointer (some ⟨p, 0, none⟩), .int .i64 9] W fun e w' => e = .returned (.int .i64 0) ∧ Fr [] W w' := fun W hW => by
                have := sum_all W p b ks 0 0 9 hW
                rwa [hs9] at this
              go_wp2_with fail
              refine (hS _ hT4).mono ?_
              rintro e w5 ⟨rfl, f5⟩
              have hB5 := hB4.trans (f5.below hB4.size (by simp))
              go_wp2_with fail
              refine (watches_any w5).mono ?_
              rintro e w6 ⟨rfl, hB6⟩
              go_wp2_with fail
              go_ret
              exact ⟨rfl, hB5.trans (hB6.mono hB5.size)⟩


theorem walk_sums (w : World) (n : Int) (a : Option Addr) (len cap : Nat) (hlen : len ≤ maxLen) (l : List (Int × Int × Int × Int)) (hl : Acts w a len l) :
    Calls Try.prog 5 #[.int .i64 n, .slice a len cap] w fun e w' => e = .returned (.bool true) ∧ Below w.heap.size w w' := by
  unfold maxLen at hlen
  by_cases hA : (1024 < n ∧ n ≤ 1048576) ∨ 60 < len
  · exact sums_a w n a len cap (by omega) hA
  · cases hB : mayB n
    · exact sums_b w n a len cap (by omega) hB
    · unfold mayB at hB
      simp at hB
      obtain ⟨m, rfl⟩ : ∃ m : Nat, n = 4 * m := ⟨(n / 4).toNat, by omega⟩
      exact sums_c w m a len cap l (by omega) (by omega) (by omega) hl
end Go.Proofs.Ytgkpbmgbaonbhaa
