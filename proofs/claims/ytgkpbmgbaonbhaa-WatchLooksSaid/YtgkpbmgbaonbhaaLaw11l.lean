/- The walk of WatchLooks, its loops. -/
import Derived.Test.YtgkpbmgbaonbhaaLaw11k
namespace Go.Proofs.Ytgkpbmgbaonbhaa
open Go.RowKit
set_option linter.unusedVariables false

set_option maxRecDepth 100000 in
set_option maxHeartbeats 8000000 in
theorem looks_c (w : World) (m : Nat) (x wd k : Int) (a : Option Addr) (len cap : Nat) (l : List (Int × Int × Int × Int)) (hm1 : 1 ≤ m) (hm2 : m ≤ 256) (hlen : len ≤ 60) (hl : Acts w a len l) :
    Calls Try.prog 6 #[.int .i64 (4 * m), .slice a len cap, .int .i64 x, .int .i64 wd, .int .i64 k] w fun e w' => e = .returned (.bool true) ∧ Below w.heap.size w w' := by
  have h1 : (4 : Int) * m ≤ 1024 := by omega
  have hx := xmay w (4 * m)
  rw [show mayB (4 * m) = true by unfold mayB; simp; omega] at hx
  go_enter Try.func6, Try.ntmps6
  go_wp2_with (go_at_call 24; refine hx.mono ?_; rintro e w' ⟨rfl, rfl⟩)
  refine (new_yes w m hm1 (by omega)).mono ?_
  rintro e w1 ⟨p, b, rfl, hw1, hp, hbb, f1⟩
  have hB1 : Below w.heap.size w w1 := f1.below (Nat.le_refl _) (by simp)
  clear f1
  go_wp2_with fail
  go_loopw [12] (fun i wr => MarksRel w p b m len i wr) (fun i _ => len - (intOf i).toNat)
  case atStart => exact ⟨0, Nat.zero_le _, rfl, _, hw1, by simp, hB1⟩
  case round =>
    clear hw1 hB1
    obtain ⟨t, ht, rfl, ks, hT, hks, hB⟩ := hrel
    by_cases hlt : t < len
    · obtain ⟨B, off, rfl, hBl, hcell⟩ := hl.2 (by omega)
      have hlt' : t < l.length := by rw [hl.1]; exact hlt
      obtain ⟨d0, d1, d2, d3⟩ := hcell t hlt'
      have e1 := (hB.cell (p := ⟨B, off + t * 4 + 1, none⟩) hBl).trans d1
      have e2 := (hB.cell (p := ⟨B, off + t * 4 + 2, none⟩) hBl).trans d2
      have e3 := (hB.cell (p := ⟨B, off + t * 4 + 3, none⟩) hBl).trans d3
      have hpl := hT.st.lt
      have hbl := hT.row.lt
      generalize l[t] = y at *
      obtain ⟨yk, yx, yn, yo⟩ := y
      simp only at e1 e2 e3
      clear d0 d1 d2 d3 hcell hl hlt'
      have hg2 : (0 : Int) ≤ t := by omega
      have hg3 : (t : Int) < len := by omega
      have HK := Lib.hid hks
      clear hks
      go_wp2_with fail
      go_region_held3 (fun w' => w'.cell? ⟨B, off + t * 4 + 1, none⟩ = some (.int .i64 yx) ∧ w'.cell? ⟨B, off + t * 4 + 2, none⟩ = some (.int .i64 yn) ∧ w'.cell? ⟨B, off + t * 4 + 3, none⟩ = some (.int .i64 yo)) (exact ⟨e1, e2, e3⟩)
        (first | (go_at_call 17; refine (mark_all _ p b ks 0 0 yx yn yo hT.drew).mono ?_; rintro e W2 ⟨rfl, hT2, f2⟩; have hB2 : Below w.heap.size w W2 := hB.trans (((frDrew (S := [])).join f2).below hB.size (by first | (simp; done) | (simp; omega))); have e1 := (hB2.cell (p := ⟨B, off + t * 4 + 1, none⟩) hBl).trans ((hB.cell (p := ⟨B, off + t * 4 + 1, none⟩) hBl).symm.trans e1); have e2 := (hB2.cell (p := ⟨B, off + t * 4 + 2, none⟩) hBl).trans ((hB.cell (p := ⟨B, off + t * 4 + 2, none⟩) hBl).symm.trans e2); have e3 := (hB2.cell (p := ⟨B, off + t * 4 + 3, none⟩) hBl).trans ((hB.cell (p := ⟨B, off + t * 4 + 3, none⟩) hBl).symm.trans e3)))
      go_wp2
      go_roundw
      case rel => exact ⟨t + 1, by omega, by go_num, _, hT2, by rw [newK_length]; exact HK.out, hB2⟩
      case measure => simp [intOf]; omega
    · have hkl : (4 : Int) * ks.length = 4 * m := by rw [hks]
      clear hl
      have hlk := look2 wr p b ks 0 0 x wd k hT (by omega) (by omega) (by omega) (by omega)
      have hfin : ∀ W n, IsW W p b ks 1 (ftN (mayL ks x wd k)) → Fr [p] wr W → Calls Try.prog 8 #[] (W.drewN n) fun e w' => e = .returned (.bool true) ∧ Below w.heap.size w w' := fun W n h f =>
        (watches_any (W.drewN n)).mono fun e w' ⟨h1, h2⟩ => ⟨h1, (hB.trans (f.below hB.size (by first | (simp; done) | (simp; omega)))).trans ((bdrewN (Below.refl _ W) n).trans (h2.mono (by have := f.size; have := hB.size; simp; omega)))⟩
      by_cases hbase : k ≠ 0 ∧ (wd = 1 ∨ wd = 2 ∨ wd = 4 ∨ wd = 8) ∧ 0 ≤ x ∧ x < 4 * m
      · obtain ⟨b0, b1, b2, b3⟩ := hbase
        have hwant := want_is ks x wd k b0 b1 b2 (by omega)
        have hkb : (k != 0) = true := by simpa using b0
        have hwb : (wd == 1) = true ∨ ((wd == 1) = false ∧ (wd == 2) = true) ∨ ((wd == 1) = false ∧ (wd == 2) = false ∧ (wd == 4) = true) ∨ ((wd == 1) = false ∧ (wd == 2) = false ∧ (wd == 4) = false ∧ (wd == 8) = true) := by
          rcases b1 with rfl | rfl | rfl | rfl <;> decide
        have hwd1 : 1 ≤ wd := by omega
        have hwd8 : wd ≤ 8 := by omega
        have hwz : (wd == 0) = false := by simp; omega
        have hx8 : x ≤ 1024 := by omega
        have HW := Lib.hid hwant
        clear hwant b0 b1 hkl
        rcases hwb with c1 | ⟨c1, c2⟩ | ⟨c1, c2, c3⟩ | ⟨c1, c2, c3, c4⟩
        all_goals
          go_wp2_with fail
          go_loop [13, 14] (fun v i => ∃ t : Nat, (t : Int) ≤ wd ∧ i = .int .i64 t ∧ v = .bool (wantT ks x wd k t)) (fun _ i => wd.toNat - (intOf i).toNat)
          case atStart => exact ⟨0, by omega, rfl, rfl⟩
          case round =>
            obtain ⟨t, ht, rfl, rfl⟩ := hrel
            have hg0 : (0 : Int) ≤ t := by omega
            by_cases hlt : (t : Int) < wd
            · have hka := kind_all wr p b ks 0 0 (x + t) 1 hT
              have hst : wantT ks x wd k (t + 1) = (wantT ks x wd k t && ((kindL ks (x + t) 1 : Nat) : Int) == k) := rfl
              cases hwt : wantT ks x wd k t
              · rw [hwt, Bool.false_and] at hst
                have HS := Lib.hid hst
                clear hst hwt hka hfin hlk
                go_wp2_with fail
                go_round
                case rel => exact ⟨t + 1, by omega, by go_num, by rw [HS.out]⟩
                case measure => simp [intOf]; omega
              · rw [hwt, Bool.true_and] at hst
                generalize kindL ks (x + t) 1 = kk at *
                have HS := Lib.hid hst
                clear hst hwt hfin hlk
                go_wp2_with (go_at_call 13; refine hka.mono ?_; rintro e w' ⟨rfl, rfl⟩)
                go_round
                case rel => exact ⟨t + 1, by omega, by go_num, by rw [HS.out]⟩
                case measure => simp [intOf]; omega
            · have htw : t = wd.toNat := by omega
              subst htw
              rw [HW.out]
              cases hm : mayL ks x wd k
              · rw [hm] at hlk hfin
                have hF : ftN false = 1 := rfl
                rw [hF] at hlk hfin
                clear hm HW hF
                go_wp2_with (first | (go_at_call 11; refine hlk.mono ?_; rintro e W2 ⟨rfl, h2, f2⟩; have l1 := looks_some W2 p b _ _ _ h2; have l2 := faults_some W2 p b _ _ _ h2; have hw := hfin W2 0 h2 f2) | (go_at_call 19; refine l1.mono ?_; rintro e w' ⟨rfl, rfl⟩) | (go_at_call 20; refine l2.mono ?_; rintro e w' ⟨rfl, rfl⟩) | (go_at_call 8; refine hw.mono ?_; rintro e w' ⟨rfl, hB'⟩))
                go_ret
                exact ⟨rfl, hB'⟩
              · rw [hm] at hlk hfin
                have hF : ftN true = 0 := rfl
                rw [hF] at hlk hfin
                clear hm HW hF
                go_wp2_with (first | (go_at_call 11; refine hlk.mono ?_; rintro e W2 ⟨rfl, h2, f2⟩; have l1 := looks_some W2 p b _ _ _ h2; have l2 := faults_some W2 p b _ _ _ h2; have hw := hfin W2 0 h2 f2) | (go_at_call 19; refine l1.mono ?_; rintro e w' ⟨rfl, rfl⟩) | (go_at_call 20; refine l2.mono ?_; rintro e w' ⟨rfl, rfl⟩) | (go_at_call 8; refine hw.mono ?_; rintro e w' ⟨rfl, hB'⟩))
                go_ret
                exact ⟨rfl, hB'⟩
      · rw [mayL_no ks x wd k (by omega)] at hlk hfin
        have hF : ftN false = 1 := rfl
        rw [hF] at hlk hfin
        clear hF hkl
        have hb : k = 0 ∨ ((k != 0) = true ∧ (wd == 1) = false ∧ (wd == 2) = false ∧ (wd == 4) = false ∧ (wd == 8) = false) ∨
            ((k != 0) = true ∧ ((wd == 1) = true ∨ ((wd == 1) = false ∧ (wd == 2) = true) ∨ ((wd == 1) = false ∧ (wd == 2) = false ∧ (wd == 4) = true) ∨ ((wd == 1) = false ∧ (wd == 2) = false ∧ (wd == 4) = false ∧ (wd == 8) = true)) ∧ (x < 0 ∨ (0 ≤ x ∧ 4 * (m : Int) ≤ x ∧ decide (x < 4 * (m : Int)) = false))) := by
          by_cases h0 : k = 0
          · exact .inl h0
          · have h0' : (k != 0) = true := by simpa using h0
            by_cases h5 : wd = 1 ∨ wd = 2 ∨ wd = 4 ∨ wd = 8
            · refine .inr (.inr ⟨h0', ?_, by rw [decide_eq_false_iff_not]; omega⟩)
              rcases h5 with rfl | rfl | rfl | rfl <;> decide
            · refine .inr (.inl ⟨h0', ?_, ?_, ?_, ?_⟩) <;> simp <;> omega
        clear hbase
        rcases hb with rfl | ⟨c0, c1, c2, c3, c4⟩ | ⟨c0, c1 | ⟨c1, c2⟩ | ⟨c1, c2, c3⟩ | ⟨c1, c2, c3, c4⟩, c5 | ⟨c5, c6, c7⟩⟩
        all_goals
          go_wp2_with (first | (go_at_call 11; refine hlk.mono ?_; rintro e W2 ⟨rfl, h2, f2⟩; have l1 := looks_some W2 p b _ _ _ h2; have l2 := faults_some W2 p b _ _ _ h2; have hw := hfin W2 0 h2 f2) | (go_at_call 19; refine l1.mono ?_; rintro e w' ⟨rfl, rfl⟩) | (go_at_call 20; refine l2.mono ?_; rintro e w' ⟨rfl, rfl⟩) | (go_at_call 8; refine hw.mono ?_; rintro e w' ⟨rfl, hB'⟩))
          go_ret
          exact ⟨rfl, hB'⟩
end Go.Proofs.Ytgkpbmgbaonbhaa
