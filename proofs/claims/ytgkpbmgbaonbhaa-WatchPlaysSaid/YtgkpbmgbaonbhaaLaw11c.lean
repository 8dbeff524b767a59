/- The walk of WatchPlays, its loop. -/
import Derived.Test.YtgkpbmgbaonbhaaLaw11b
namespace Go.Proofs.Ytgkpbmgbaonbhaa
open Go.RowKit

theorem own_fr {w w' : World} {base : Nat} {e : TypeId} {size : Nat} {v : Value} {n : Nat} {xs : List Value} (h : w.ownsRow base e size v n xs) (f : Fr [] w w') : w'.ownsRow base e size v n xs :=
  h.kept (row := none) ⟨f.os, f.tape, f.output, f.size, fun k hk _ => f.block k hk (by simp)⟩ (by cases v.ownBlock <;> simp)

/-- What holds at each round's head. -/
def PlayRel (B : World) (p b q c m len : Nat) (i : Value) (wr : World) : Prop :=
  ∃ t : Nat, t ≤ len ∧ i = .int .i64 t ∧ ∃ ks lk ft, Two wr p b q c m ks lk ft ∧ 0 ≤ lk ∧ lk ≤ t ∧ 0 ≤ ft ∧ ft ≤ t ∧ Below B.heap.size B wr

def ftN (b : Bool) : Int := if b then 0 else 1
theorem ftN_b (b : Bool) : 0 ≤ ftN b ∧ ftN b ≤ 1 := by cases b <;> simp [ftN]
theorem look2 (w : World) (p b : Nat) (ks : List Nat) (lk ft x n k : Int) (h : IsW w p b ks lk ft) (h0 : 0 ≤ lk) (h1 : lk ≤ 1099511627776) (h2 : 0 ≤ ft) (h3 : ft ≤ 1099511627776) :
    Calls Try.prog 11 #[.pointer (some ⟨p, 0, none⟩), .int .i64 x, .int .i64 n, .int .i64 k] w fun e w' =>
      e = .returned (.bool (mayL ks x n k)) ∧ IsW w' p b ks (lk + 1) (ft + ftN (mayL ks x n k)) ∧ Fr [p] w w' := look_some w p b ks lk ft x n k h h0 h1 h2 h3
theorem xlook2 (w : World) (p b : Nat) (ks : List Nat) (lk ft x n k : Int) (h : IsX w p b (exp4 ks) lk ft) (h0 : 0 ≤ lk) (h1 : lk ≤ 1099511627776) (h2 : 0 ≤ ft) (h3 : ft ≤ 1099511627776) :
    Calls Try.prog 12 #[.pointer (some ⟨p, 0, none⟩), .int .i64 x, .int .i64 n, .int .i64 k] w fun e w' =>
      e = .returned (.bool (mayL ks x n k)) ∧ IsX w' p b (exp4 ks) (lk + 1) (ft + ftN (mayL ks x n k)) ∧ Fr [p] w w' := by
  rw [mayL_exp]
  exact xlook w p b (exp4 ks) lk ft x n k h h0 h1 h2 h3

set_option maxRecDepth 100000 in
set_option maxHeartbeats 8000000 in
theorem plays_c (w : World) (m : Nat) (a : Option Addr) (len cap : Nat) (l : List (Int × Int × Int × Int)) (hm1 : 1 ≤ m) (hm2 : m ≤ 256) (hlen : len ≤ 60) (hl : Acts w a len l) :
    Calls Try.prog 3 #[.int .i64 (4 * m), .slice a len cap] w fun e w' => e = .returned (.bool true) ∧ Below w.heap.size w w' := by
  have h1 : (4 : Int) * m ≤ 1024 := by omega
  have hb := new_yes w m hm1 (by omega)
  have hx : ∀ w1, Calls Try.prog 10 #[.int .i64 (4 * m)] w1 _ := fun w1 => by
    have := xnew_yes w1 (4 * m) (by unfold mayB; simp; omega)
    rw [show ((4 * m : Nat) : Int) = 4 * m by omega] at this
    exact this
  go_enter Try.func3, Try.ntmps3
  go_wp2_with fail
  refine hb.mono ?_
  rintro e w1 ⟨p, b, rfl, hw1, hp, hbb, f1⟩
  clear hb
  go_wp2_with fail
  refine (hx _).mono ?_
  rintro e w2 ⟨q, c, rfl, hx2, hq, hc, f2⟩
  clear hx
  have hT : Two w2 p b q c m (List.replicate m 0) 0 0 := ⟨hw1.fr f2 (by simp) (by simp), by rw [exp4_zero]; exact hx2, by simp, by have := hw1.row.lt; omega⟩
  have hB2 : Below w.heap.size w w2 := (f1.step f2 (by simp)).below (Nat.le_refl _) (by simp)
  have hqw : w.heap.size ≤ q := by have := f1.size; omega
  have hcw : w.heap.size ≤ c := by have := f1.size; omega
  clear hw1 hx2 f1 f2 hq hc
  go_wp2_with fail
  go_loopw [7] (fun i wr => PlayRel w p b q c m len i wr) (fun i _ => len - (intOf i).toNat)
  case atStart => exact ⟨0, Nat.zero_le _, rfl, _, 0, 0, hT, by omega, by omega, by omega, by omega, hB2⟩
  case round =>
    clear hT hB2
    obtain ⟨t, ht, rfl, ks, lk, ft, hT, hk0, hk1, hf0, hf1, hB⟩ := hrel
    by_cases hlt : t < len
    · obtain ⟨B, off, rfl, hBl, hcell⟩ := hl.2 (by omega)
      have hlt' : t < l.length := by rw [hl.1]; exact hlt
      obtain ⟨d0, d1, d2, d3⟩ := hcell t hlt'
      have e0 := (hB.cell (p := ⟨B, off + t * 4, none⟩) hBl).trans d0
      have e1 := (hB.cell (p := ⟨B, off + t * 4 + 1, none⟩) hBl).trans d1
      have e2 := (hB.cell (p := ⟨B, off + t * 4 + 2, none⟩) hBl).trans d2
      have e3 := (hB.cell (p := ⟨B, off + t * 4 + 3, none⟩) hBl).trans d3
      have hpl := hT.one.st.lt
      have hbl := hT.one.row.lt
      have hql := hT.two.st.lt
      have hcl := hT.two.row.lt
      obtain ⟨n1, n2, n3, n4, n5⟩ := hT.pq
      have n6 := hT.bc
      generalize l[t] = y at *
      obtain ⟨yk, yx, yn, yo⟩ := y
      simp only at e0 e1 e2 e3
      clear d0 d1 d2 d3 hcell hl hlt'
      have hg2 : (0 : Int) ≤ t := by omega
      have hg3 : (t : Int) < len := by omega
      by_cases k4 : yk = 4
      · subst k4
        go_wp2_with fail
        obtain ⟨W1, hW1⟩ : ∃ W1, wr.alloc (.cells #[.int .i64 4, .int .i64 yx, .int .i64 yn, .int .i64 yo] 29) = W1 := ⟨_, rfl⟩
        have bY : Blk W1 wr.heap.size 29 #[.int .i64 4, .int .i64 yx, .int .i64 yn, .int .i64 yo] := by rw [← hW1]; exact Blk.new _ _ _
        have hf1 : Fr [] wr W1 := by rw [← hW1]; exact (Fr.refl _ _).alloc _
        have hT1 := hT.fr hf1 (by simp) (by simp) (by simp) (by simp)
        rw [hW1]
        clear hW1
        have hY := bY.cell
        go_region_held3 (fun w' => ∀ i, w'.cell? ⟨wr.heap.size, i, none⟩ = (#[.int .i64 4, .int .i64 yx, .int .i64 yn, .int .i64 yo] : Array Value)[i]?) (exact hY)
          (first | (go_at_call 13; refine (frS (kind_all _ p b ks lk ft yx yn hT1.one.drew)).mono ?_; rintro e W2 ⟨rfl, f2⟩; have hT2 := hT1.fr (frDrew.trans f2) (by simp) (by simp) (by simp) (by simp); have hY := (bY.fr (frDrew.trans f2) (by simp)).cell; have hfr := hf1.trans (frDrew.trans f2)) | (go_at_call 14; refine (frN (kindL_exp ks yx yn ▸ xkind_all _ q c _ lk ft yx yn hT2.two)).mono ?_; rintro e W3 ⟨rfl, f3⟩; have hT3 := hT2.fr f3 (by simp) (by simp) (by simp) (by simp); have hY := (bY.fr ((frDrew.trans f2).trans f3) (by simp)).cell; have hB3 := hB.trans ((hfr.trans f3).below hB.size (by simp))))
        clear hY hf1
        go_wp2_with fail
        have hQ := hT3.two.st.cell
        have hrl := runs_len ks
        have hkl := hT3.one.len
        go_region_held3 (fun w' => ∀ i, w'.cell? ⟨q, i, none⟩ = (#[.slice (some ⟨c, 0, none⟩) (exp4 ks).length (exp4 ks).length, .int .i64 (lk), .int .i64 (ft)] : Array Value)[i]?) (exact hQ)
          (first
            | (go_at_call 19; refine (frS (looks_some _ p b _ _ _ hT3.one.drew)).mono ?_; rintro e W4 ⟨rfl, f4⟩; have hT4 := hT3.fr (frDrew.trans f4) (by simp) (by simp) (by simp) (by simp); have hQ := hT4.two.st.cell; have hfr4 := frDrew.trans f4)
            | (go_at_call 20; refine (frS (faults_some _ p b _ _ _ hT4.one)).mono ?_; rintro e W5 ⟨rfl, f5⟩; have hT5 := hT4.fr f5 (by simp) (by simp) (by simp) (by simp); have hQ := hT5.two.st.cell; have hfr5 := hfr4.trans f5)
            | (go_at_call 22; refine (runs_all _ p b _ _ _ hT5.one).mono ?_; rintro e W6 ⟨v6, rfl, ho6, f6⟩; have hT6 := hT5.fr f6 (by simp) (by simp) (by simp) (by simp); have hQ := hT6.two.st.cell; have hfr6 := hfr5.trans f6)
            | (go_at_call 23; refine (runs_exp ks ▸ xruns _ q c (exp4 ks) _ _ hT6.two).mono ?_; rintro e W7 ⟨v7, rfl, ho7, f7⟩; have hT7 := hT6.fr f7 (by simp) (by simp) (by simp) (by simp); have hQ := hT7.two.st.cell; have hfr7 := hfr6.trans f7)
            | (go_at_call 21; refine (frN (same_yes _ _ _ v6 v7 ((runs ks).map scale4) (by rw [List.length_map]; omega) (by rw [List.length_map]; exact own_fr ho6 f7) ho7)).mono ?_; rintro e W8 ⟨rfl, f8⟩; have hT8 := hT7.fr f8 (by simp) (by simp) (by simp) (by simp); have hQ := hT8.two.st.cell; have hfr8 := hfr7.trans f8))
        clear hQ ho6 ho7
        go_wp2
        go_roundw
        case rel => exact ⟨t + 1, by omega, by go_num, _, _, _, hT8, by omega, by omega, by omega, by omega, hB3.trans (hfr8.below hB3.size (by simp))⟩
        case measure => simp [intOf]; omega
      by_cases k5 : yk = 5
      · subst k5
        go_wp2_with fail
        obtain ⟨W1, hW1⟩ : ∃ W1, wr.alloc (.cells #[.int .i64 5, .int .i64 yx, .int .i64 yn, .int .i64 yo] 29) = W1 := ⟨_, rfl⟩
        have bY : Blk W1 wr.heap.size 29 #[.int .i64 5, .int .i64 yx, .int .i64 yn, .int .i64 yo] := by rw [← hW1]; exact Blk.new _ _ _
        have hf1 : Fr [] wr W1 := by rw [← hW1]; exact (Fr.refl _ _).alloc _
        have hT1 := hT.fr hf1 (by simp) (by simp) (by simp) (by simp)
        rw [hW1]
        clear hW1
        have hY := bY.cell
        go_region_held3 (fun w' => ∀ i, w'.cell? ⟨wr.heap.size, i, none⟩ = (#[.int .i64 5, .int .i64 yx, .int .i64 yn, .int .i64 yo] : Array Value)[i]?) (exact hY)
          (first | (go_at_call 15; refine (sum_all _ p b ks lk ft yo hT1.one.drew).mono ?_; rintro e W2 ⟨rfl, f2⟩; have hT2 := hT1.fr (frDrew.trans f2) (by simp) (by simp) (by simp) (by simp); have hY := (bY.fr (frDrew.trans f2) (by simp)).cell; have hfr := hf1.trans (frDrew.trans f2)) | (go_at_call 16; refine (frS (sumL_exp ks yo ▸ xsum _ q c _ lk ft yo hT2.two)).mono ?_; rintro e W3 ⟨rfl, f3⟩; have hT3 := hT2.fr f3 (by simp) (by simp) (by simp) (by simp); have hY := (bY.fr ((frDrew.trans f2).trans f3) (by simp)).cell; have hB3 := hB.trans ((hfr.trans f3).below hB.size (by simp))))
        clear hY hf1
        go_wp2_with fail
        have hQ := hT3.two.st.cell
        have hrl := runs_len ks
        have hkl := hT3.one.len
        go_region_held3 (fun w' => ∀ i, w'.cell? ⟨q, i, none⟩ = (#[.slice (some ⟨c, 0, none⟩) (exp4 ks).length (exp4 ks).length, .int .i64 (lk), .int .i64 (ft)] : Array Value)[i]?) (exact hQ)
          (first
            | (go_at_call 19; refine (frS (looks_some _ p b _ _ _ hT3.one.drew)).mono ?_; rintro e W4 ⟨rfl, f4⟩; have hT4 := hT3.fr (frDrew.trans f4) (by simp) (by simp) (by simp) (by simp); have hQ := hT4.two.st.cell; have hfr4 := frDrew.trans f4)
            | (go_at_call 20; refine (frS (faults_some _ p b _ _ _ hT4.one)).mono ?_; rintro e W5 ⟨rfl, f5⟩; have hT5 := hT4.fr f5 (by simp) (by simp) (by simp) (by simp); have hQ := hT5.two.st.cell; have hfr5 := hfr4.trans f5)
            | (go_at_call 22; refine (runs_all _ p b _ _ _ hT5.one).mono ?_; rintro e W6 ⟨v6, rfl, ho6, f6⟩; have hT6 := hT5.fr f6 (by simp) (by simp) (by simp) (by simp); have hQ := hT6.two.st.cell; have hfr6 := hfr5.trans f6)
            | (go_at_call 23; refine (runs_exp ks ▸ xruns _ q c (exp4 ks) _ _ hT6.two).mono ?_; rintro e W7 ⟨v7, rfl, ho7, f7⟩; have hT7 := hT6.fr f7 (by simp) (by simp) (by simp) (by simp); have hQ := hT7.two.st.cell; have hfr7 := hfr6.trans f7)
            | (go_at_call 21; refine (frN (same_yes _ _ _ v6 v7 ((runs ks).map scale4) (by rw [List.length_map]; omega) (by rw [List.length_map]; exact own_fr ho6 f7) ho7)).mono ?_; rintro e W8 ⟨rfl, f8⟩; have hT8 := hT7.fr f8 (by simp) (by simp) (by simp) (by simp); have hQ := hT8.two.st.cell; have hfr8 := hfr7.trans f8))
        clear hQ ho6 ho7
        go_wp2
        go_roundw
        case rel => exact ⟨t + 1, by omega, by go_num, _, _, _, hT8, by omega, by omega, by omega, by omega, hB3.trans (hfr8.below hB3.size (by simp))⟩
        case measure => simp [intOf]; omega
      by_cases k2 : yk = 2
      · subst k2
        have hfb := ftN_b (mayL ks yx yn yo)
        go_wp2_with fail
        obtain ⟨W1, hW1⟩ : ∃ W1, wr.alloc (.cells #[.int .i64 2, .int .i64 yx, .int .i64 yn, .int .i64 yo] 29) = W1 := ⟨_, rfl⟩
        have bY : Blk W1 wr.heap.size 29 #[.int .i64 2, .int .i64 yx, .int .i64 yn, .int .i64 yo] := by rw [← hW1]; exact Blk.new _ _ _
        have hf1 : Fr [] wr W1 := by rw [← hW1]; exact (Fr.refl _ _).alloc _
        have hT1 := hT.fr hf1 (by simp) (by simp) (by simp) (by simp)
        rw [hW1]
        clear hW1
        have hY := bY.cell
        go_region_held3 (fun w' => ∀ i, w'.cell? ⟨wr.heap.size, i, none⟩ = (#[.int .i64 2, .int .i64 yx, .int .i64 yn, .int .i64 yo] : Array Value)[i]?) (exact hY)
          (first | (go_at_call 11; refine (look2 _ p b ks lk ft yx yn yo hT1.one.drew hk0 (by omega) hf0 (by omega)).mono ?_; rintro e W2 ⟨rfl, h2, f2⟩; have hx2 := hT1.two.drew.fr f2 (by first | (simp; done) | (simp; omega)) (by first | (simp; done) | (simp; omega)); have f12 := (frDrew (S := []) (w := W1)).join f2; have hY := (bY.fr f12 (by first | (simp; done) | (simp; omega))).cell; have hfr := hf1.join f12) | (go_at_call 12; refine (xlook2 _ q c ks lk ft yx yn yo hx2 hk0 (by omega) hf0 (by omega)).mono ?_; rintro e W3 ⟨rfl, h3, f3⟩; have hT3 : Two W3 p b q c m ks (lk + 1) (ft + ftN (mayL ks yx yn yo)) := ⟨h2.fr f3 (by first | (simp; done) | (simp; omega)) (by first | (simp; done) | (simp; omega)), h3, hT.len, hT.bc⟩; have hY := (bY.fr (f12.join f3) (by first | (simp; done) | (simp; omega))).cell; have hB3 := hB.trans ((hfr.join f3).below hB.size (by first | (simp; done) | (simp; omega)))))
        clear hY hf1
        go_wp2_with fail
        have hQ := hT3.two.st.cell
        have hrl := runs_len ks
        have hkl := hT3.one.len
        go_region_held3 (fun w' => ∀ i, w'.cell? ⟨q, i, none⟩ = (#[.slice (some ⟨c, 0, none⟩) (exp4 ks).length (exp4 ks).length, .int .i64 (lk + 1), .int .i64 (ft + ftN (mayL ks yx yn yo))] : Array Value)[i]?) (exact hQ)
          (first
            | (go_at_call 19; refine (frS (looks_some _ p b _ _ _ hT3.one.drew)).mono ?_; rintro e W4 ⟨rfl, f4⟩; have hT4 := hT3.fr (frDrew.trans f4) (by simp) (by simp) (by simp) (by simp); have hQ := hT4.two.st.cell; have hfr4 := frDrew.trans f4)
            | (go_at_call 20; refine (frS (faults_some _ p b _ _ _ hT4.one)).mono ?_; rintro e W5 ⟨rfl, f5⟩; have hT5 := hT4.fr f5 (by simp) (by simp) (by simp) (by simp); have hQ := hT5.two.st.cell; have hfr5 := hfr4.trans f5)
            | (go_at_call 22; refine (runs_all _ p b _ _ _ hT5.one).mono ?_; rintro e W6 ⟨v6, rfl, ho6, f6⟩; have hT6 := hT5.fr f6 (by simp) (by simp) (by simp) (by simp); have hQ := hT6.two.st.cell; have hfr6 := hfr5.trans f6)
            | (go_at_call 23; refine (runs_exp ks ▸ xruns _ q c (exp4 ks) _ _ hT6.two).mono ?_; rintro e W7 ⟨v7, rfl, ho7, f7⟩; have hT7 := hT6.fr f7 (by simp) (by simp) (by simp) (by simp); have hQ := hT7.two.st.cell; have hfr7 := hfr6.trans f7)
            | (go_at_call 21; refine (frN (same_yes _ _ _ v6 v7 ((runs ks).map scale4) (by rw [List.length_map]; omega) (by rw [List.length_map]; exact own_fr ho6 f7) ho7)).mono ?_; rintro e W8 ⟨rfl, f8⟩; have hT8 := hT7.fr f8 (by simp) (by simp) (by simp) (by simp); have hQ := hT8.two.st.cell; have hfr8 := hfr7.trans f8))
        clear hQ ho6 ho7
        go_wp2
        go_roundw
        case rel => exact ⟨t + 1, by omega, by go_num, _, _, _, hT8, by omega, by omega, by omega, by omega, hB3.trans (hfr8.below hB3.size (by simp))⟩
        case measure => simp [intOf]; omega
      by_cases k3 : yk = 3
      · subst k3
        have hfb := ftN_b (mayL ks yx yn yo)
        go_wp2_with fail
        obtain ⟨W1, hW1⟩ : ∃ W1, wr.alloc (.cells #[.int .i64 3, .int .i64 yx, .int .i64 yn, .int .i64 yo] 29) = W1 := ⟨_, rfl⟩
        have bY : Blk W1 wr.heap.size 29 #[.int .i64 3, .int .i64 yx, .int .i64 yn, .int .i64 yo] := by rw [← hW1]; exact Blk.new _ _ _
        have hf1 : Fr [] wr W1 := by rw [← hW1]; exact (Fr.refl _ _).alloc _
        have hT1 := hT.fr hf1 (by simp) (by simp) (by simp) (by simp)
        rw [hW1]
        clear hW1
        have hY := bY.cell
        go_region_held3 (fun w' => ∀ i, w'.cell? ⟨wr.heap.size, i, none⟩ = (#[.int .i64 3, .int .i64 yx, .int .i64 yn, .int .i64 yo] : Array Value)[i]?) (exact hY)
          (first | (go_at_call 11; refine (look2 _ p b ks lk ft yx yn yo hT1.one.drew hk0 (by omega) hf0 (by omega)).mono ?_; rintro e W2 ⟨rfl, h2, f2⟩; have hx2 := hT1.two.drew.fr f2 (by first | (simp; done) | (simp; omega)) (by first | (simp; done) | (simp; omega)); have f12 := (frDrew (S := []) (w := W1)).join f2; have hY := (bY.fr f12 (by first | (simp; done) | (simp; omega))).cell; have hfr := hf1.join f12) | (go_at_call 12; refine (xlook2 _ q c ks lk ft yx yn yo hx2 hk0 (by omega) hf0 (by omega)).mono ?_; rintro e W3 ⟨rfl, h3, f3⟩; have hT3 : Two W3 p b q c m ks (lk + 1) (ft + ftN (mayL ks yx yn yo)) := ⟨h2.fr f3 (by first | (simp; done) | (simp; omega)) (by first | (simp; done) | (simp; omega)), h3, hT.len, hT.bc⟩; have hY := (bY.fr (f12.join f3) (by first | (simp; done) | (simp; omega))).cell; have hB3 := hB.trans ((hfr.join f3).below hB.size (by first | (simp; done) | (simp; omega)))))
        clear hY hf1
        go_wp2_with fail
        have hQ := hT3.two.st.cell
        have hrl := runs_len ks
        have hkl := hT3.one.len
        go_region_held3 (fun w' => ∀ i, w'.cell? ⟨q, i, none⟩ = (#[.slice (some ⟨c, 0, none⟩) (exp4 ks).length (exp4 ks).length, .int .i64 (lk + 1), .int .i64 (ft + ftN (mayL ks yx yn yo))] : Array Value)[i]?) (exact hQ)
          (first
            | (go_at_call 19; refine (frS (looks_some _ p b _ _ _ hT3.one.drew)).mono ?_; rintro e W4 ⟨rfl, f4⟩; have hT4 := hT3.fr (frDrew.trans f4) (by simp) (by simp) (by simp) (by simp); have hQ := hT4.two.st.cell; have hfr4 := frDrew.trans f4)
            | (go_at_call 20; refine (frS (faults_some _ p b _ _ _ hT4.one)).mono ?_; rintro e W5 ⟨rfl, f5⟩; have hT5 := hT4.fr f5 (by simp) (by simp) (by simp) (by simp); have hQ := hT5.two.st.cell; have hfr5 := hfr4.trans f5)
            | (go_at_call 22; refine (runs_all _ p b _ _ _ hT5.one).mono ?_; rintro e W6 ⟨v6, rfl, ho6, f6⟩; have hT6 := hT5.fr f6 (by simp) (by simp) (by simp) (by simp); have hQ := hT6.two.st.cell; have hfr6 := hfr5.trans f6)
            | (go_at_call 23; refine (runs_exp ks ▸ xruns _ q c (exp4 ks) _ _ hT6.two).mono ?_; rintro e W7 ⟨v7, rfl, ho7, f7⟩; have hT7 := hT6.fr f7 (by simp) (by simp) (by simp) (by simp); have hQ := hT7.two.st.cell; have hfr7 := hfr6.trans f7)
            | (go_at_call 21; refine (frN (same_yes _ _ _ v6 v7 ((runs ks).map scale4) (by rw [List.length_map]; omega) (by rw [List.length_map]; exact own_fr ho6 f7) ho7)).mono ?_; rintro e W8 ⟨rfl, f8⟩; have hT8 := hT7.fr f8 (by simp) (by simp) (by simp) (by simp); have hQ := hT8.two.st.cell; have hfr8 := hfr7.trans f8))
        clear hQ ho6 ho7
        go_wp2
        go_roundw
        case rel => exact ⟨t + 1, by omega, by go_num, _, _, _, hT8, by omega, by omega, by omega, by omega, hB3.trans (hfr8.below hB3.size (by simp))⟩
        case measure => simp [intOf]; omega
      have q2 : (yk == 2) = false := by simpa using k2
      have q3 : (yk == 3) = false := by simpa using k3
      have q4 : (yk == 4) = false := by simpa using k4
      have q5 : (yk == 5) = false := by simpa using k5
      clear k2 k3 k4 k5
      by_cases hE : markE (4 * ks.length) yx yn yo = 0
      · have hE' : (0 ≤ yo ∧ yo ≤ 8) ∧ (0 ≤ yx ∧ 0 ≤ yn ∧ yx ≤ 4 * ks.length ∧ yn ≤ 4 * ks.length - yx) ∧ yx % 4 = 0 ∧ yn % 4 = 0 := markE_ok _ _ _ _ hE
        obtain ⟨⟨j1, j2⟩, ⟨j3, j4, j5, j6⟩, j7, j8⟩ := hE'
        obtain ⟨k, rfl⟩ : ∃ k : Nat, yo = k := ⟨yo.toNat, by omega⟩
        obtain ⟨X, rfl⟩ : ∃ k : Nat, yx = k := ⟨yx.toNat, by omega⟩
        obtain ⟨Y, rfl⟩ : ∃ k : Nat, yn = k := ⟨yn.toNat, by omega⟩
        clear hE
        have hx4 : X % 4 = 0 := by omega
        have hy4 : Y % 4 = 0 := by omega
        have hxe : setR (exp4 ks) X (X + Y) k = exp4 (setR ks (X / 4) ((X + Y) / 4) k) := by rw [exp4_setR]; congr 1 <;> omega
        have HXE := Lib.hid hxe
        have hel : (exp4 ks).length = 4 * ks.length := exp4_len ks
        have HEL := Lib.hid hel
        have hx5 : X + Y ≤ 4 * ks.length := by omega
        have hm5 := hT.len
        clear hxe hel j7 j8 hm5
        go_wp2_with fail
        obtain ⟨W1, hW1⟩ : ∃ W1, wr.alloc (.cells #[.int .i64 yk, .int .i64 X, .int .i64 Y, .int .i64 k] 29) = W1 := ⟨_, rfl⟩
        have bY : Blk W1 wr.heap.size 29 #[.int .i64 yk, .int .i64 X, .int .i64 Y, .int .i64 k] := by rw [← hW1]; exact Blk.new _ _ _
        have hf1 : Fr [] wr W1 := by rw [← hW1]; exact (Fr.refl _ _).alloc _
        have hT1 := hT.fr hf1 (by simp) (by simp) (by simp) (by simp)
        rw [hW1]
        clear hW1
        have hY := bY.cell
        go_region_held3 (fun w' => ∀ i, w'.cell? ⟨wr.heap.size, i, none⟩ = (#[.int .i64 yk, .int .i64 X, .int .i64 Y, .int .i64 k] : Array Value)[i]?) (exact hY)
          (first | (go_at_call 17; refine (mark_ok _ p b ks lk ft X Y (X / 4) ((X + Y) / 4) k hT1.one.drew (by omega) (by omega) (by omega) (by omega) (by omega)).mono ?_; rintro e W2 ⟨rfl, h2, f2⟩; have hx2 := hT1.two.drew.fr f2 (by first | (simp; done) | (simp; omega)) (by first | (simp; done) | (simp; omega)); have f12 := (frDrew (S := []) (w := W1)).join f2; have hY := (bY.fr f12 (by first | (simp; done) | (simp; omega))).cell; have hfr := hf1.join f12) | (go_at_call 18; refine (xmark_ok _ q c (exp4 ks) lk ft X Y k hx2 (by rw [HEL.out]; omega) (by omega) hx4 hy4).mono ?_; rintro e W3 ⟨rfl, h3, f3⟩; have hT3 : Two W3 p b q c m (setR ks (X / 4) ((X + Y) / 4) k) lk ft := ⟨h2.fr f3 (by first | (simp; done) | (simp; omega)) (by first | (simp; done) | (simp; omega)), HXE.out ▸ h3, by rw [setR_length]; exact hT.len, hT.bc⟩; have hY := (bY.fr (f12.join f3) (by first | (simp; done) | (simp; omega))).cell; have hB3 := hB.trans ((hfr.join f3).below hB.size (by first | (simp; done) | (simp; omega)))))
        clear hY hf1
        go_wp2_with fail
        have hQ := hT3.two.st.cell
        have hrl := runs_len (setR ks (X / 4) ((X + Y) / 4) k)
        have hkl := hT3.one.len
        go_region_held3 (fun w' => ∀ i, w'.cell? ⟨q, i, none⟩ = (#[.slice (some ⟨c, 0, none⟩) (exp4 (setR ks (X / 4) ((X + Y) / 4) k)).length (exp4 (setR ks (X / 4) ((X + Y) / 4) k)).length, .int .i64 (lk), .int .i64 (ft)] : Array Value)[i]?) (exact hQ)
          (first
            | (go_at_call 19; refine (frS (looks_some _ p b _ _ _ hT3.one.drew)).mono ?_; rintro e W4 ⟨rfl, f4⟩; have hT4 := hT3.fr (frDrew.trans f4) (by simp) (by simp) (by simp) (by simp); have hQ := hT4.two.st.cell; have hfr4 := frDrew.trans f4)
            | (go_at_call 20; refine (frS (faults_some _ p b _ _ _ hT4.one)).mono ?_; rintro e W5 ⟨rfl, f5⟩; have hT5 := hT4.fr f5 (by simp) (by simp) (by simp) (by simp); have hQ := hT5.two.st.cell; have hfr5 := hfr4.trans f5)
            | (go_at_call 22; refine (runs_all _ p b _ _ _ hT5.one).mono ?_; rintro e W6 ⟨v6, rfl, ho6, f6⟩; have hT6 := hT5.fr f6 (by simp) (by simp) (by simp) (by simp); have hQ := hT6.two.st.cell; have hfr6 := hfr5.trans f6)
            | (go_at_call 23; refine (runs_exp (setR ks (X / 4) ((X + Y) / 4) k) ▸ xruns _ q c (exp4 (setR ks (X / 4) ((X + Y) / 4) k)) _ _ hT6.two).mono ?_; rintro e W7 ⟨v7, rfl, ho7, f7⟩; have hT7 := hT6.fr f7 (by simp) (by simp) (by simp) (by simp); have hQ := hT7.two.st.cell; have hfr7 := hfr6.trans f7)
            | (go_at_call 21; refine (frN (same_yes _ _ _ v6 v7 ((runs (setR ks (X / 4) ((X + Y) / 4) k)).map scale4) (by rw [List.length_map]; omega) (by rw [List.length_map]; exact own_fr ho6 f7) ho7)).mono ?_; rintro e W8 ⟨rfl, f8⟩; have hT8 := hT7.fr f8 (by simp) (by simp) (by simp) (by simp); have hQ := hT8.two.st.cell; have hfr8 := hfr7.trans f8))
        clear hQ ho6 ho7
        go_wp2
        go_roundw
        case rel => exact ⟨t + 1, by omega, by go_num, _, _, _, hT8, by omega, by omega, by omega, by omega, hB3.trans (hfr8.below hB3.size (by simp))⟩
        case measure => simp [intOf]; omega
      · have hE2 : markE (exp4 ks).length yx yn yo = markE (4 * ks.length) yx yn yo := by rw [exp4_len]
        have HE := Lib.hid hE
        have HE2 := Lib.hid hE2
        clear hE hE2
        go_wp2_with fail
        obtain ⟨W1, hW1⟩ : ∃ W1, wr.alloc (.cells #[.int .i64 yk, .int .i64 yx, .int .i64 yn, .int .i64 yo] 29) = W1 := ⟨_, rfl⟩
        have bY : Blk W1 wr.heap.size 29 #[.int .i64 yk, .int .i64 yx, .int .i64 yn, .int .i64 yo] := by rw [← hW1]; exact Blk.new _ _ _
        have hf1 : Fr [] wr W1 := by rw [← hW1]; exact (Fr.refl _ _).alloc _
        have hT1 := hT.fr hf1 (by simp) (by simp) (by simp) (by simp)
        rw [hW1]
        clear hW1
        have hY := bY.cell
        go_region_held3 (fun w' => ∀ i, w'.cell? ⟨wr.heap.size, i, none⟩ = (#[.int .i64 yk, .int .i64 yx, .int .i64 yn, .int .i64 yo] : Array Value)[i]?) (exact hY)
          (first | (go_at_call 17; refine (frS (mark_bad _ p b ks lk ft yx yn yo hT1.one.drew HE.out)).mono ?_; rintro e W2 ⟨rfl, f2⟩; have hT2 := hT1.fr (frDrew.trans f2) (by simp) (by simp) (by simp) (by simp); have hY := (bY.fr (frDrew.trans f2) (by simp)).cell; have hfr := hf1.trans (frDrew.trans f2)) | (go_at_call 18; refine (frS (HE2.out ▸ xmark_bad _ q c (exp4 ks) lk ft yx yn yo hT2.two (by rw [HE2.out]; exact HE.out))).mono ?_; rintro e W3 ⟨rfl, f3⟩; have hT3 := hT2.fr f3 (by simp) (by simp) (by simp) (by simp); have hY := (bY.fr ((frDrew.trans f2).trans f3) (by simp)).cell; have hB3 := hB.trans ((hfr.trans f3).below hB.size (by simp))))
        clear hY hf1
        go_wp2_with fail
        have hQ := hT3.two.st.cell
        have hrl := runs_len ks
        have hkl := hT3.one.len
        go_region_held3 (fun w' => ∀ i, w'.cell? ⟨q, i, none⟩ = (#[.slice (some ⟨c, 0, none⟩) (exp4 ks).length (exp4 ks).length, .int .i64 (lk), .int .i64 (ft)] : Array Value)[i]?) (exact hQ)
          (first
            | (go_at_call 19; refine (frS (looks_some _ p b _ _ _ hT3.one.drew)).mono ?_; rintro e W4 ⟨rfl, f4⟩; have hT4 := hT3.fr (frDrew.trans f4) (by simp) (by simp) (by simp) (by simp); have hQ := hT4.two.st.cell; have hfr4 := frDrew.trans f4)
            | (go_at_call 20; refine (frS (faults_some _ p b _ _ _ hT4.one)).mono ?_; rintro e W5 ⟨rfl, f5⟩; have hT5 := hT4.fr f5 (by simp) (by simp) (by simp) (by simp); have hQ := hT5.two.st.cell; have hfr5 := hfr4.trans f5)
            | (go_at_call 22; refine (runs_all _ p b _ _ _ hT5.one).mono ?_; rintro e W6 ⟨v6, rfl, ho6, f6⟩; have hT6 := hT5.fr f6 (by simp) (by simp) (by simp) (by simp); have hQ := hT6.two.st.cell; have hfr6 := hfr5.trans f6)
            | (go_at_call 23; refine (runs_exp ks ▸ xruns _ q c (exp4 ks) _ _ hT6.two).mono ?_; rintro e W7 ⟨v7, rfl, ho7, f7⟩; have hT7 := hT6.fr f7 (by simp) (by simp) (by simp) (by simp); have hQ := hT7.two.st.cell; have hfr7 := hfr6.trans f7)
            | (go_at_call 21; refine (frN (same_yes _ _ _ v6 v7 ((runs ks).map scale4) (by rw [List.length_map]; omega) (by rw [List.length_map]; exact own_fr ho6 f7) ho7)).mono ?_; rintro e W8 ⟨rfl, f8⟩; have hT8 := hT7.fr f8 (by simp) (by simp) (by simp) (by simp); have hQ := hT8.two.st.cell; have hfr8 := hfr7.trans f8))
        clear hQ ho6 ho7
        go_wp2
        go_roundw
        case rel => exact ⟨t + 1, by omega, by go_num, _, _, _, hT8, by omega, by omega, by omega, by omega, hB3.trans (hfr8.below hB3.size (by simp))⟩
        case measure => simp [intOf]; omega
    · have hw := watches_any wr
      go_wp2_with (go_at_call 8; refine hw.mono ?_; rintro e w' ⟨rfl, hB'⟩)
      go_ret
      exact ⟨rfl, hB.trans (hB'.mono hB.size)⟩
end Go.Proofs.Ytgkpbmgbaonbhaa
