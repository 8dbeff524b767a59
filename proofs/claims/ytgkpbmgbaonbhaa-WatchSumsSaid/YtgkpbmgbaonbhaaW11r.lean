/- Walks: the document's answer for layer 11 (columbariumref11), and ref09.Same. -/
import Derived.Test.YtgkpbmgbaonbhaaW11b
import Derived.Test.YtgkpbmgbaonbhaaRuns
namespace Go.Proofs.Ytgkpbmgbaonbhaa
set_option linter.unusedVariables false
open Go.RowKit

/-- The document's watch: its struct in block p, the kind of each byte in block b. -/
structure IsX (w : World) (p b : Nat) (ks : List Nat) (lk ft : Int) : Prop where
  st : Blk w p 39 #[.slice (some ⟨b, 0, none⟩) ks.length ks.length, .int .i64 lk, .int .i64 ft]
  row : Blk w b 5 (bytes ks)
  len : ks.length ≤ 1048576
  le : ∀ k ∈ ks, k ≤ 8

theorem IsX.ne {w : World} {p b : Nat} {ks : List Nat} {lk ft : Int} (h : IsX w p b ks lk ft) : p ≠ b := h.st.ne_ h.row (by decide)
theorem IsX.setRow {w : World} {p b : Nat} {ks : List Nat} {lk ft : Int} (h : IsX w p b ks lk ft) (i k : Nat) (hk : k ≤ 8) : IsX (w.setCell ⟨b, i, none⟩ (.int .u8 (k : Int))) p b (ks.set i k) lk ft := by
  refine ⟨?_, ?_, by rw [List.length_set]; exact h.len, fun x hx => (List.mem_or_eq_of_mem_set hx).elim (h.le x) (fun e => e ▸ hk)⟩
  · rw [List.length_set]; exact h.st.far (p := ⟨b, i, none⟩) h.ne _
  · rw [← bytes_set]; exact h.row.set i _
theorem IsX.fr {w w' : World} {p b : Nat} {ks : List Nat} {lk ft : Int} {S : List Nat} (h : IsX w p b ks lk ft) (hf : Fr S w w') (hp : p ∉ S) (hb : b ∉ S) : IsX w' p b ks lk ft :=
  ⟨h.st.fr hf hp, h.row.fr hf hb, h.len, h.le⟩
theorem IsX.setLk {w : World} {p b : Nat} {ks : List Nat} {lk ft : Int} (h : IsX w p b ks lk ft) (v : Int) : IsX (w.setCell ⟨p, 1, none⟩ (.int .i64 v)) p b ks v ft :=
  ⟨h.st.set 1 _, h.row.far (p := ⟨p, 1, none⟩) h.ne.symm _, h.len, h.le⟩
theorem IsX.setFt {w : World} {p b : Nat} {ks : List Nat} {lk ft : Int} (h : IsX w p b ks lk ft) (v : Int) : IsX (w.setCell ⟨p, 2, none⟩ (.int .i64 v)) p b ks lk v :=
  ⟨h.st.set 2 _, h.row.far (p := ⟨p, 2, none⟩) h.ne.symm _, h.len, h.le⟩
theorem IsX.drewN {w : World} {p b : Nat} {ks : List Nat} {lk ft : Int} (h : IsX w p b ks lk ft) (n : Nat) : IsX (w.drewN n) p b ks lk ft := ⟨h.st, h.row, h.len, h.le⟩
theorem at_le8 {ks : List Nat} (h : ∀ k ∈ ks, k ≤ 8) (i : Nat) : ks[i]?.getD 0 ≤ 8 := by
  by_cases hi : i < ks.length
  · rw [List.getElem?_eq_getElem hi]; exact h _ (List.getElem_mem _)
  · rw [List.getElem?_eq_none (by omega)]; simp

set_option maxHeartbeats 400000 in
theorem xmay (w : World) (n : Int) :
    Calls Try.prog 24 #[.int .i64 n] w fun e w' => e = .returned (.bool (mayB n)) ∧ w = w' := by
  by_cases h1 : 4 ≤ n
  · by_cases h2 : n ≤ 1048576
    · by_cases h3 : n % 4 = 0
      · have e3 : (n % 4 == 0) = true := by simpa using h3
        have e4 := Lib.hid h3
        clear h3
        go_enter Try.func24, Try.ntmps24
        go_wp2
        go_ret
        exact ⟨ret_true ⟨h1, h2, e4.out⟩, rfl⟩
      · have e3 : (n % 4 == 0) = false := by simpa using h3
        go_enter Try.func24, Try.ntmps24
        go_wp2
        go_ret
        exact ⟨ret_false (fun hh => h3 hh.2.2), rfl⟩
    · go_enter Try.func24, Try.ntmps24
      go_wp2
      go_ret
      exact ⟨ret_false (fun hh => by omega), rfl⟩
  · go_enter Try.func24, Try.ntmps24
    go_wp2
    go_ret
    exact ⟨ret_false (fun hh => by omega), rfl⟩

set_option maxHeartbeats 400000 in
theorem xnew_no (w : World) (n : Int) (h : mayB n = false) :
    Calls Try.prog 10 #[.int .i64 n] w fun e w' => e = .returned (.pointer none) ∧ w = w' := by
  have hm := xmay w n
  rw [h] at hm
  clear h
  go_enter Try.func10, Try.ntmps10
  go_wp2_with (go_at_call 24; refine hm.mono ?_; rintro e w' ⟨rfl, rfl⟩)
  go_ret
  exact ⟨rfl, rfl⟩

set_option maxHeartbeats 400000 in
theorem xnew_yes (w : World) (n : Nat) (h : mayB n = true) :
    Calls Try.prog 10 #[.int .i64 n] w fun e w' => ∃ p b, e = .returned (.pointer (some ⟨p, 0, none⟩)) ∧ IsX w' p b (List.replicate n 0) 0 0 ∧ w.heap.size ≤ p ∧ w.heap.size ≤ b ∧ Fr [] w w' := by
  have hm := xmay w n
  rw [h] at hm
  have hn : n ≤ 1048576 := by unfold mayB at h; simp at h; omega
  clear h
  have hmk := run_make_bytes (P := Try.prog) 37 5 Try.underlying37 info_u8 .i64 .i64 n (by omega)
  go_enter Try.func10, Try.ntmps10
  go_wp2_with (go_at_call 24; refine hm.mono ?_; rintro e w' ⟨rfl, rfl⟩)
  go_ret
  refine ⟨w.heap.size + 1, w.heap.size, rfl, ⟨?_, (Blk.new w _ _).alloc _, by simpa using hn, fun k hk => by rw [List.eq_of_mem_replicate hk]; omega⟩, by omega, by omega, ((Fr.refl [] w).alloc _).alloc _⟩
  rw [List.length_replicate]
  have := Blk.new (w.alloc (.cells (bytes (List.replicate n 0)) 5)) 39 #[.slice (some ⟨w.heap.size, 0, none⟩) n n, .int .i64 0, .int .i64 0]
  rwa [World.size_alloc] at this

set_option maxHeartbeats 400000 in
theorem xfits (w : World) (p b n : Nat) (x y : Int) (hn : n ≤ 1048576) (h : w.cell? ⟨p, 0, none⟩ = some (.slice (some ⟨b, 0, none⟩) n n)) :
    Calls Try.prog 27 #[.pointer (some ⟨p, 0, none⟩), .int .i64 x, .int .i64 y] w fun e w' => e = .returned (.bool (fitsB n x y)) ∧ w = w' := by
  go_enter Try.func27, Try.ntmps27
  go_wp2
  all_goals (go_ret; unfold fitsB; exact ⟨by first | exact ret_dec (by omega) | exact ret_true (by omega) | exact ret_false (by omega), rfl⟩)

/-- What the document's Kind answers. -/
def xkind (K : List Nat) (x y : Int) : Nat := if y < 1 ∨ fitsB K.length x y = false then 0 else kindY K x.toNat (x + y).toNat

set_option maxHeartbeats 1000000 in
theorem xkind_all (w : World) (p b : Nat) (K : List Nat) (lk ft x y : Int) (h : IsX w p b K lk ft) :
    Calls Try.prog 14 #[.pointer (some ⟨p, 0, none⟩), .int .i64 x, .int .i64 y] w fun e w' => e = .returned (.int .i64 (xkind K x y)) ∧ ∃ n, w' = w.drewN n := by
  have hf := xfits w p b K.length x y h.len (h.st.cell 0)
  unfold xkind
  by_cases h1 : y < 1
  · rw [if_pos (.inl h1)]
    go_enter Try.func14, Try.ntmps14
    go_wp2_with fail
    go_ret
    exact ⟨rfl, 0, rfl⟩
  cases hB : fitsB K.length x y
  · rw [if_pos (.inr rfl)]
    rw [hB] at hf
    clear hB
    go_enter Try.func14, Try.ntmps14
    go_wp2_with (go_at_call 27; refine hf.mono ?_; rintro e w' ⟨rfl, rfl⟩)
    go_ret
    exact ⟨rfl, 0, rfl⟩
  rw [if_neg (by simp; omega)]
  rw [hB] at hf
  have hB' : 0 ≤ x ∧ 0 ≤ y ∧ x ≤ K.length ∧ y ≤ K.length - x := by unfold fitsB at hB; simpa using hB
  clear hB
  obtain ⟨g1, g2, g3, g4⟩ := hB'
  obtain ⟨a, rfl⟩ : ∃ a : Nat, x = a := ⟨x.toNat, by omega⟩
  obtain ⟨m, rfl⟩ : ∃ m : Nat, y = m := ⟨y.toNat, by omega⟩
  rw [show ((a : Int) + m).toNat = a + m by omega, Int.toNat_natCast]
  have hl := h.len
  have hc := h.st.cell 0
  have hg := h.row.cell a
  rw [bytes_get _ _ (by omega)] at hg
  have hw8 := at_le8 h.le a
  generalize hk0 : K[a]?.getD 0 = k0 at hg hw8
  have K0 := Lib.hid hk0
  have H := Lib.hid h
  clear hk0 h
  go_enter Try.func14, Try.ntmps14
  go_wp2_with (go_at_call 27; refine hf.mono ?_; rintro e w' ⟨rfl, rfl⟩)
  go_loopw [7] (fun v wr => ∃ t : Nat, 1 ≤ t ∧ t ≤ m ∧ v = .int .i64 t ∧ (∃ n, wr = w.drewN n) ∧ ∀ x, x < t → K[a + x]?.getD 0 = k0) (fun v _ => m - (intOf v).toNat)
  case atStart => exact ⟨1, by omega, by omega, rfl, ⟨0, rfl⟩, fun x hx => by rw [show a + x = a by omega]; exact K0.out⟩
  case round =>
    obtain ⟨t, ht1, ht, rfl, ⟨n, rfl⟩, hall⟩ := hrel
    have HA := Lib.hid hall
    clear hall
    by_cases hlt : t < m
    · have hc1 := H.out.row.cell (a + t)
      rw [bytes_get _ _ (by omega)] at hc1
      generalize hk1 : K[a + t]?.getD 0 = k1 at hc1
      have K1 := Lib.hid hk1
      clear hk1
      have hi1 : (a : Int) + t < K.length := by omega
      have hi2 : (a : Int) < K.length := by omega
      have hi3 : (0 : Int) ≤ (a : Int) + t := by omega
      have hi4 : ((a : Int) + t).toNat = a + t := by omega
      by_cases hkk : k1 = k0
      · subst hkk
        have e0 : ((k1 : Int) != k1) = false := by simp
        go_wp2
        go_quiet (fail)
        go_wp2
        go_roundw
        case rel => exact ⟨t + 1, by omega, by omega, by go_num, ⟨_, rfl⟩, fun x hx => by
          by_cases hxt : x < t
          · exact HA.out x hxt
          · rw [show x = t by omega]; exact K1.out⟩
        case measure => simp [intOf]; omega
      · have e0 : ((k1 : Int) != k0) = true := by simp; omega
        go_wp2
        go_quiet (fail)
        go_wp2
        go_ret
        exact ⟨ret_int (by rw [kindY, oneK_no K a (a + m) t (by omega) (by rw [K1.out, K0.out]; exact hkk)]; rfl), _, World.drewN_drewN _ _ _⟩
    · go_wp2
      go_ret
      have e : oneK K a (a + m) = true := oneK_yes K a (a + m) (fun x hx => by rw [HA.out x (by omega)]; exact K0.out.symm)
      exact ⟨ret_int (by rw [kindY, e, K0.out]; rfl), _, rfl⟩

theorem xkind_le (K : List Nat) (h : ∀ k ∈ K, k ≤ 8) (x y : Int) : xkind K x y ≤ 8 := by
  unfold xkind kindY
  split
  · omega
  · split
    · exact at_le8 h _
    · omega

/-- May a touch be, by the document? -/
def xmayL (K : List Nat) (x wd k : Int) : Bool := decide ((wd = 1 ∨ wd = 2 ∨ wd = 4 ∨ wd = 8) ∧ fitsB K.length x wd = true ∧ x % wd = 0 ∧ k ≠ 0 ∧ (xkind K x wd : Int) = k)

set_option maxHeartbeats 2000000 in
theorem xlook (w : World) (p b : Nat) (K : List Nat) (lk ft x n k : Int) (h : IsX w p b K lk ft) (h0 : 0 ≤ lk) (h1 : lk ≤ 1099511627776) (h2 : 0 ≤ ft) (h3 : ft ≤ 1099511627776) :
    Calls Try.prog 12 #[.pointer (some ⟨p, 0, none⟩), .int .i64 x, .int .i64 n, .int .i64 k] w fun e w' =>
      e = .returned (.bool (xmayL K x n k)) ∧ IsX w' p b K (lk + 1) (ft + if xmayL K x n k then 0 else 1) ∧ Fr [p] w w' := by
  have hc := h.st.cell 1
  have hf := h.st.frozen 1
  have H1 := h.setLk (lk + 1)
  have hm := xkind_all _ p b K _ _ x n H1
  have hfi := xfits _ p b K.length x n h.len (H1.st.cell 0)
  have hc2 := h.st.cell 2
  have hf2 := h.st.frozen 2
  have H2 := (h.setLk (lk + 1)).setFt (ft + 1)
  have HF1 : Fr [p] w (w.setCell ⟨p, 1, none⟩ (.int .i64 (lk + 1))) := (Fr.refl _ _).setCell (.inl (by simp)) _
  have HF2 : Fr [p] w ((w.setCell ⟨p, 1, none⟩ (.int .i64 (lk + 1))).setCell ⟨p, 2, none⟩ (.int .i64 (ft + 1))) := ((Fr.refl _ _).setCell (.inl (by simp)) _).setCell (.inl (by simp)) _
  clear h
  by_cases hn : n = 1 ∨ n = 2 ∨ n = 4 ∨ n = 8
  · have hb : (n == 1) = true ∨ ((n == 1) = false ∧ (n == 2) = true) ∨ ((n == 1) = false ∧ (n == 2) = false ∧ (n == 4) = true) ∨ ((n == 1) = false ∧ (n == 2) = false ∧ (n == 4) = false ∧ (n == 8) = true) := by
      rcases hn with rfl | rfl | rfl | rfl <;> decide
    have hn0 : 1 ≤ n := by omega
    have hn8 : n ≤ 8 := by omega
    have hn1 : ((n : Int) == 0) = false := by simp; omega
    have hm8 := xkind_le K H1.le x n
    have HN := Lib.hid hn
    clear hn
    cases hB : fitsB K.length x n
    · have hr : xmayL K x n k = false := decide_eq_false fun hh => by rw [hh.2.1] at hB; cases hB
      rw [hB] at hfi
      rw [hr]
      clear hr hB hm
      rcases hb with b1 | ⟨b1, b2⟩ | ⟨b1, b2, b3⟩ | ⟨b1, b2, b3, b4⟩
      all_goals
        go_enter Try.func12, Try.ntmps12
        go_wp2_with (go_at_call 27; refine hfi.mono ?_; rintro e w' ⟨rfl, rfl⟩)
        go_ret
        exact ⟨rfl, by simpa using H2, HF2⟩
    · have hx0 : 0 ≤ x := by unfold fitsB at hB; simp at hB; omega
      rw [hB] at hfi
      have HB := Lib.hid hB
      clear hB
      by_cases hq : x % n = 0
      · have hqb : (x % n == 0) = true := by simpa using hq
        have HQ := Lib.hid hq
        clear hq
        by_cases hk : k = 0
        · have hr : xmayL K x n k = false := decide_eq_false fun hh => hh.2.2.2.1 hk
          have hkb : (k != 0) = false := by simpa using hk
          rw [hr]
          clear hr hk hm
          rcases hb with b1 | ⟨b1, b2⟩ | ⟨b1, b2, b3⟩ | ⟨b1, b2, b3, b4⟩
          all_goals
            go_enter Try.func12, Try.ntmps12
            go_wp2_with (go_at_call 27; refine hfi.mono ?_; rintro e w' ⟨rfl, rfl⟩)
            go_ret
            exact ⟨rfl, by simpa using H2, HF2⟩
        · have hkb : (k != 0) = true := by simpa using hk
          generalize hkn : xkind K x n = kn at hm hm8
          by_cases he : (kn : Int) = k
          · have heb : ((kn : Int) == k) = true := by simpa using he
            have hr : xmayL K x n k = true := decide_eq_true ⟨HN.out, HB.out, HQ.out, hk, by rw [hkn]; exact he⟩
            rw [hr]
            clear hr hk he hkn
            rcases hb with b1 | ⟨b1, b2⟩ | ⟨b1, b2, b3⟩ | ⟨b1, b2, b3, b4⟩
            all_goals
              go_enter Try.func12, Try.ntmps12
              go_wp2_with (first | (go_at_call 27; refine hfi.mono ?_; rintro e w' ⟨rfl, rfl⟩) | (go_at_call 14; refine hm.mono ?_; rintro e w' ⟨rfl, ⟨nd, rfl⟩⟩))
              go_ret
              exact ⟨rfl, by simpa using H1.drewN nd, HF1.drewN _⟩
          · have heb : ((kn : Int) == k) = false := by simpa using he
            have hr : xmayL K x n k = false := decide_eq_false fun hh => he (by rw [hkn] at hh; exact hh.2.2.2.2)
            rw [hr]
            clear hr hk he hkn
            rcases hb with b1 | ⟨b1, b2⟩ | ⟨b1, b2, b3⟩ | ⟨b1, b2, b3, b4⟩
            all_goals
              go_enter Try.func12, Try.ntmps12
              go_wp2_with (first | (go_at_call 27; refine hfi.mono ?_; rintro e w' ⟨rfl, rfl⟩) | (go_at_call 14; refine hm.mono ?_; rintro e w' ⟨rfl, ⟨nd, rfl⟩⟩))
              go_ret
              exact ⟨rfl, by simpa using (H1.drewN nd).setFt (ft + 1), (HF1.drewN _).setCell (.inl (by simp)) _⟩
      · have hqb : (x % n == 0) = false := by simpa using hq
        have hr : xmayL K x n k = false := decide_eq_false fun hh => hq hh.2.2.1
        rw [hr]
        clear hr hq hm
        rcases hb with b1 | ⟨b1, b2⟩ | ⟨b1, b2, b3⟩ | ⟨b1, b2, b3, b4⟩
        all_goals
          go_enter Try.func12, Try.ntmps12
          go_wp2_with (go_at_call 27; refine hfi.mono ?_; rintro e w' ⟨rfl, rfl⟩)
          go_ret
          exact ⟨rfl, by simpa using H2, HF2⟩
  · have hr : xmayL K x n k = false := decide_eq_false fun hh => hn hh.1
    rw [hr]
    have b1 : (n == 1) = false := by simp; omega
    have b2 : (n == 2) = false := by simp; omega
    have b4 : (n == 4) = false := by simp; omega
    have b8 : (n == 8) = false := by simp; omega
    clear hn hr hm hfi
    go_enter Try.func12, Try.ntmps12
    go_wp2_with fail
    go_ret
    exact ⟨rfl, by simpa using H2, HF2⟩

set_option maxHeartbeats 400000 in
theorem xmark_bad (w : World) (p b : Nat) (K : List Nat) (lk ft x y k : Int) (h : IsX w p b K lk ft) (hb : markE K.length x y k ≠ 0) :
    Calls Try.prog 18 #[.pointer (some ⟨p, 0, none⟩), .int .i64 x, .int .i64 y, .int .i64 k] w fun e w' => e = .returned (.int .i64 (markE K.length x y k)) ∧ w = w' := by
  have hf := xfits w p b K.length x y h.len (h.st.cell 0)
  unfold markE at hb ⊢
  generalize K.length = n at *
  clear h
  by_cases h1 : k < 0 ∨ 8 < k
  · rw [if_pos h1]
    clear hb hf
    rcases h1 with h1 | h1
    · go_enter Try.func18, Try.ntmps18
      go_wp2_with fail
      go_ret
      exact ⟨rfl, rfl⟩
    · go_enter Try.func18, Try.ntmps18
      go_wp2_with fail
      go_ret
      exact ⟨rfl, rfl⟩
  rw [if_neg h1] at hb ⊢
  have h2 : 0 ≤ k := by omega
  have h3 : k ≤ 8 := by omega
  clear h1
  cases hB : fitsB n x y
  · rw [if_pos rfl]
    rw [hB] at hf
    clear hb hB
    go_enter Try.func18, Try.ntmps18
    go_wp2_with (go_at_call 27; refine hf.mono ?_; rintro e w' ⟨rfl, rfl⟩)
    go_ret
    exact ⟨rfl, rfl⟩
  · rw [hB] at hf hb
    simp only [Bool.true_eq_false, if_false] at hb ⊢
    have hB' : 0 ≤ x ∧ 0 ≤ y ∧ x ≤ n ∧ y ≤ n - x := by unfold fitsB at hB; simpa using hB
    obtain ⟨g1, g2, g3, g4⟩ := hB'
    clear hB
    by_cases h5 : x % 4 ≠ 0 ∨ y % 4 ≠ 0
    · rw [if_pos h5]
      clear hb
      by_cases h6 : x % 4 = 0
      · have e1 : (x % 4 != 0) = false := by simp; omega
        have e2 : (y % 4 != 0) = true := by simp; omega
        clear h5 h6
        go_enter Try.func18, Try.ntmps18
        go_wp2_with (go_at_call 27; refine hf.mono ?_; rintro e w' ⟨rfl, rfl⟩)
        go_ret
        exact ⟨rfl, rfl⟩
      · have e1 : (x % 4 != 0) = true := by simp; omega
        clear h5 h6
        go_enter Try.func18, Try.ntmps18
        go_wp2_with (go_at_call 27; refine hf.mono ?_; rintro e w' ⟨rfl, rfl⟩)
        go_ret
        exact ⟨rfl, rfl⟩
    · rw [if_neg h5] at hb
      exact absurd rfl hb

set_option maxHeartbeats 1000000 in
theorem xmark_ok (w : World) (p b : Nat) (K : List Nat) (lk ft : Int) (i m k : Nat) (h : IsX w p b K lk ft) (hj : i + m ≤ K.length) (hk : k ≤ 8) (hi4 : i % 4 = 0) (hm4 : m % 4 = 0) :
    Calls Try.prog 18 #[.pointer (some ⟨p, 0, none⟩), .int .i64 i, .int .i64 m, .int .i64 k] w fun e w' => e = .returned (.int .i64 0) ∧ IsX w' p b (setR K i (i + m) k) lk ft ∧ Fr [b] w w' := by
  have hf := xfits w p b K.length i m h.len (h.st.cell 0)
  rw [show fitsB K.length i m = true by unfold fitsB; simp; omega] at hf
  have hl := h.len
  have e1 : ((i : Int) % 4 != 0) = false := by simp; omega
  have e2 : ((m : Int) % 4 != 0) = false := by simp; omega
  clear hi4 hm4
  go_enter Try.func18, Try.ntmps18
  go_wp2_with (go_at_call 27; refine hf.mono ?_; rintro e w' ⟨rfl, rfl⟩)
  go_loopw [9] (fun v wr => ∃ t : Nat, t ≤ m ∧ v = .int .i64 t ∧ IsX wr p b (setR K i (i + t) k) lk ft ∧ Fr [b] w wr) (fun v _ => m - (intOf v).toNat)
  case atStart => exact ⟨0, Nat.zero_le _, rfl, by rw [Nat.add_zero, setR_same]; exact h, Fr.refl _ _⟩
  case round =>
    obtain ⟨t, ht, rfl, hw, hfr⟩ := hrel
    have hc0 := hw.st.cell 0
    rw [setR_length] at hc0
    have hf1 := hw.row.frozen (i + t)
    have hc1 := hw.row.cell (i + t)
    by_cases hlt : t < m
    · rw [bytes_get _ _ (by rw [setR_length]; omega)] at hc1
      have hi1 : (i : Int) + t < K.length := by omega
      have hi3 : (0 : Int) ≤ (i : Int) + t := by omega
      have hi4 : ((i : Int) + t).toNat = i + t := by omega
      go_wp2
      go_roundw
      case rel => exact ⟨t + 1, by omega, by go_num, by have := hw.setRow (i + t) k hk; rw [setR_set _ _ _ _ (by omega)] at this; exact this, hfr.setCell (.inl (by simp)) _⟩
      case measure => simp [intOf]; omega
    · go_wp2
      go_ret
      have : t = m := by omega
      subst this
      exact ⟨rfl, hw, hfr⟩

/-- How many are k. -/
def cnt (k : Int) (K : List Nat) : Nat := (K.filter fun x : Nat => (x : Int) == k).length
theorem cnt_le (k : Int) (K : List Nat) : cnt k K ≤ K.length := List.length_filter_le _ _
theorem cnt_take (k : Int) (K : List Nat) (t : Nat) (h : t < K.length) : cnt k (K.take (t + 1)) = cnt k (K.take t) + if ((K[t]?.getD 0 : Nat) : Int) = k then 1 else 0 := by
  rw [List.take_succ_eq_append_getElem h]
  unfold cnt
  rw [List.filter_append, List.length_append, List.getElem?_eq_getElem h]
  congr 1
  by_cases e : ((K[t] : Nat) : Int) = k <;> simp [e]

set_option maxHeartbeats 1000000 in
theorem xsum (w : World) (p b : Nat) (K : List Nat) (lk ft k : Int) (h : IsX w p b K lk ft) :
    Calls Try.prog 16 #[.pointer (some ⟨p, 0, none⟩), .int .i64 k] w fun e w' => e = .returned (.int .i64 (cnt k K)) ∧ w = w' := by
  have hl := h.len
  have hc := h.st.cell 0
  have H := Lib.hid h
  clear h
  go_enter Try.func16, Try.ntmps16
  go_wp2
  go_loop [5, 6] (fun s v => ∃ t : Nat, t ≤ K.length ∧ v = .int .i64 t ∧ s = .int .i64 (cnt k (K.take t))) (fun _ v => K.length - (intOf v).toNat)
  case atStart => exact ⟨0, Nat.zero_le _, rfl, rfl⟩
  case round =>
    obtain ⟨t, ht, rfl, rfl⟩ := hrel
    have hs := cnt_le k (K.take t)
    rw [List.length_take] at hs
    by_cases hlt : t < K.length
    · have hc1 := H.out.row.cell t
      rw [bytes_get _ _ hlt] at hc1
      have hst := cnt_take k K t hlt
      have hw8 := at_le8 H.out.le t
      generalize K[t]?.getD 0 = k1 at hc1 hst hw8
      generalize hct : cnt k (K.take t) = c0 at *
      have HS := Lib.hid hst
      clear hst hct
      by_cases he : (k1 : Int) = k
      · have hb : ((k1 : Int) == k) = true := by simpa using he
        have HE := Lib.hid he
        clear he
        go_wp2
        go_round
        case rel => exact ⟨t + 1, by omega, by go_num, by rw [HS.out, if_pos HE.out]; go_num⟩
        case measure => simp [intOf]; omega
      · have hb : ((k1 : Int) == k) = false := by simpa using he
        have HE := Lib.hid he
        clear he
        go_wp2
        go_round
        case rel => exact ⟨t + 1, by omega, by go_num, by rw [HS.out, if_neg HE.out]; rfl⟩
        case measure => simp [intOf]; omega
    · go_wp2
      go_ret
      exact ⟨ret_int (by rw [List.take_of_length_le (by omega)]), rfl⟩
end Go.Proofs.Ytgkpbmgbaonbhaa
