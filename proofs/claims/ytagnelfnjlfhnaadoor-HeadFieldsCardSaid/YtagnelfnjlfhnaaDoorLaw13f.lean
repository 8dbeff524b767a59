/- The walk of HeadFields. -/
import Derived.Test.YtagnelfnjlfhnaaDoorHeads
namespace Go.Proofs.YtagnelfnjlfhnaaDoor
set_option linter.unusedVariables false
open Go.RowKit

/-- Cells a, a + 1 .. are raised by one. -/
def incr (l : List Nat) (a : Nat) : Nat → List Nat
  | 0 => l
  | j + 1 => (incr l a j).set (a + j) ((incr l a j)[a + j]?.getD 0 + 1)
def seenTo (t : Nat) : Nat → List Nat
  | 0 => List.replicate (sz t) 0
  | k + 1 => incr (seenTo t k) (wh t k).1 (wh t k).2
theorem incr_len (l : List Nat) (a : Nat) : ∀ n, (incr l a n).length = l.length
  | 0 => rfl
  | n + 1 => by rw [incr, List.length_set, incr_len l a n]
theorem seenTo_len (t : Nat) : ∀ k, (seenTo t k).length = sz t
  | 0 => by simp [seenTo]
  | k + 1 => by rw [seenTo, incr_len, seenTo_len t k]
theorem seen_small : ∀ t, t < 3 → ∀ k, k < 12 → ∀ j, j < 9 → ∀ x ∈ incr (seenTo t k) (wh t k).1 j, x ≤ 12 := by decide +kernel
theorem seen_all : ∀ t, t < 3 → seenTo t 12 = List.replicate (sz t) 1 := by decide +kernel
theorem wh_ok : ∀ t, t < 3 → ∀ k, k < 12 → (wh t k).2 = 0 ∨ (1 ≤ (wh t k).2 ∧ (wh t k).2 ≤ 8 ∧ (wh t k).1 + (wh t k).2 ≤ sz t ∧ (wh t k).1 % (wh t k).2 = 0) := by decide +kernel

def ints (l : List Nat) : Array Value := (l.map fun k : Nat => Value.int .i64 (k : Int)).toArray
theorem ints_get (l : List Nat) (i : Nat) (h : i < l.length) : (ints l)[i]? = some (.int .i64 ((l[i]?.getD 0 : Nat) : Int)) := by
  simp [ints, h]
theorem ints_set (l : List Nat) (i k : Nat) : (ints l).setIfInBounds i (.int .i64 (k : Int)) = ints (l.set i k) := by
  simp [ints, List.map_set]
theorem madeCells_ints (n : Nat) : madeCells #[.int .i64 0] n = ints (List.replicate n 0) := by
  apply Array.ext
  · simp [madeCells, ints]
  · intro i h1 h2
    simp [madeCells, ints, Nat.mod_one]
theorem run_make_ints {P : Program} (t e : TypeId) (ht : P.underlying t = some (.slice e)) (hinfo : (P.info? e).map (fun i => (i.zero, i.size, i.bytes)) = some (some (.int .i64 0), 1, 8))
    (kl kc : IntKind) (n : Nat) (h : n ≤ 1048576) (w : World) :
    (Instr.makeSlice t (.int kl (n : Int)) (.int kc (n : Int))).run P w = .ok (.slice (some ⟨w.heap.size, 0, none⟩) n n) (w.alloc (.cells (ints (List.replicate n 0)) e)) := by
  rw [← madeCells_ints]
  exact run_make_row' t e (.int .i64 0) 8 ht hinfo rfl kl kc n (by omega) (by omega) w
theorem info_int : (Tryd.prog.info? 3).map (fun i => (i.zero, i.size, i.bytes)) = some (some (.int .i64 0), 1, 8) := by kernel_rfl

theorem fields_off (w : World) (hT : Tabs w) (tag : Int) (h : tag < 0 ∨ 2 < tag) : Calls Tryd.prog 6 #[.int .i64 tag] w fun e w' => e = .returned (.bool true) ∧ Fr [] w w' := by
  have h3 := fun W h => size_any W h tag
  rw [show szZ tag = 0 by unfold szZ; rw [if_neg (by omega)]] at h3
  have h5 := heads_any
  by_cases h0 : tag < 0
  · have b0 : decide (tag < 0) = true := by simpa using h0
    clear h
    go_enter Tryd.func6, Tryd.ntmps6
    go_wp2_with fail
    with_reducible refine (h3 _ hT).mono ?_
    rintro e w' ⟨rfl, rfl⟩
    go_wp2_with fail
    with_reducible refine (h5 _ hT).mono ?_
    rintro e w4 ⟨rfl, f4⟩
    go_wp2_with fail
    go_ret
    exact ⟨rfl, f4⟩
  · have b0 : decide (tag < 0) = false := by simpa using h0
    have b1 : decide (2 < tag) = true := by simp; omega
    clear h h0
    go_enter Tryd.func6, Tryd.ntmps6
    go_wp2_with fail
    with_reducible refine (h3 _ hT).mono ?_
    rintro e w' ⟨rfl, rfl⟩
    go_wp2_with fail
    with_reducible refine (h5 _ hT).mono ?_
    rintro e w4 ⟨rfl, f4⟩
    go_wp2_with fail
    go_ret
    exact ⟨rfl, f4⟩

def FldRel (w : World) (t g : Nat) (v : Value) (wr : World) : Prop := ∃ k : Nat, k ≤ 12 ∧ v = .int .i64 k ∧ Fr [] w wr ∧ Tabs wr ∧ Blk wr g 3 (ints (seenTo t k))
def FldIn (w : World) (l : List Nat) (g a n : Nat) (v : Value) (wr : World) : Prop := ∃ j : Nat, j ≤ n ∧ v = .int .i64 j ∧ Fr [] w wr ∧ Tabs wr ∧ Blk wr g 3 (ints (incr l a j))
def FldEnd (w : World) (n g : Nat) (v : Value) (wr : World) : Prop := ∃ j : Nat, j ≤ n ∧ v = .int .i64 j ∧ Fr [] w wr ∧ Tabs wr ∧ Blk wr g 3 (ints (List.replicate n 1))

set_option maxRecDepth 100000 in
set_option maxHeartbeats 8000000 in
theorem fields_in (w : World) (hT : Tabs w) (t n : Nat) (ht : t < 3) (hn : n = sz t) (hn1 : 1 ≤ n) (hn2 : n ≤ 32) : Calls Tryd.prog 6 #[.int .i64 t] w fun e w' => e = .returned (.bool true) ∧ Fr [] w w' := by
  have h3 := fun W h => size_any W h t
  rw [show szZ t = n by unfold szZ; rw [if_pos (by omega), Int.toNat_natCast, hn]] at h3
  have h5 := heads_any
  have hwh := fun W h (k : Nat) (hk : k < 12) => where_any W h t k
  have HWH := Lib.hid (show ∀ k : Nat, k < 12 → whZ t k = wh t k from fun k hk => by unfold whZ; rw [if_pos (by omega), Int.toNat_natCast, Int.toNat_natCast])
  have HOK := Lib.hid (wh_ok t ht)
  have HSM := Lib.hid (seen_small t ht)
  have HSA := Lib.hid (seen_all t ht)
  have HSL := Lib.hid (seenTo_len t)
  have HN := Lib.hid hn
  have hmk := run_make_ints (P := Tryd.prog) 44 3 Tryd.underlying44 info_int .i64 .i64 n (by omega)
  have b0 : ((n : Int) == 0) = false := by simp; omega
  have b1 : decide ((64 : Int) < n) = false := by simp; omega
  have HR := Lib.hid (show ∀ g v wr, FldRel w t g v wr = (∃ k : Nat, k ≤ 12 ∧ v = .int .i64 k ∧ Fr [] w wr ∧ Tabs wr ∧ Blk wr g 3 (ints (seenTo t k))) from fun _ _ _ => rfl)
  generalize FldRel w t = R at *
  clear hn
  go_enter Tryd.func6, Tryd.ntmps6
  go_wp2_with fail
  with_reducible refine (h3 _ hT).mono ?_
  rintro e w' ⟨rfl, rfl⟩
  clear h3
  go_wp2_with fail
  obtain ⟨g, hg⟩ : ∃ g, g = w'.heap.size := ⟨_, rfl⟩
  rw [← hg]
  have HG := Lib.hid hg
  clear hg
  go_loopw [5] (fun v W => R g v W) (fun v _ => 12 - (intOf v).toNat)
  case atStart =>
    rw [HR.out]
    exact ⟨0, by omega, rfl, (Fr.refl _ _).alloc _, hT.alloc _, by rw [HG.out, seenTo, ← HN.out]; exact Blk.new _ _ _⟩
  case round =>
    rw [HR.out] at hrel
    obtain ⟨k, hk, rfl, hF, hTr, hB⟩ := hrel
    by_cases hlt : k < 12
    · have hw := hwh _ hTr k hlt
      rw [HWH.out k hlt] at hw
      have hok := HOK.out k hlt
      have hsm := HSM.out k hlt
      have HSS := Lib.hid (show seenTo t (k + 1) = incr (seenTo t k) (wh t k).1 (wh t k).2 from rfl)
      have hsl := HSL.out k
      rw [← HN.out] at hok hsl
      generalize wh t k = x at *
      obtain ⟨a, b⟩ := x
      generalize seenTo t k = l at *
      simp only [twoV] at hw hok hsm
      simp only at HSS
      have HSM2 := Lib.hid hsm
      have HL2 := Lib.hid hsl
      clear hsm hsl hwh
      by_cases hb0 : b = 0
      · subst hb0
        have HS0 := Lib.hid (show seenTo t (k + 1) = l from HSS.out)
        clear hok
        go_wp2_with fail
        with_reducible refine hw.mono ?_
        rintro e w3 ⟨rfl, f3⟩
        have hT3 := hTr.fr f3 (by simp)
        have hB3 := hB.fr f3 (by simp)
        have hF3 := hF.trans f3
        go_wp2_with fail
        rw [HR.out]
        exact ⟨⟨k + 1, by omega, by go_num, hF3, hT3, by rw [HS0.out]; exact hB3⟩, by simp [intOf]; omega⟩
      · obtain ⟨o1, o2, o3, o4⟩ := hok.resolve_left hb0
        have c1 : ((b : Int) == 0) = false := by simp; omega
        have c2 : decide ((a : Int) < 0) = false := by simp
        have c3 : decide ((b : Int) < 1) = false := by simp; omega
        have c4 : decide ((n : Int) < a) = false := by simp; omega
        have c5 : decide ((n : Int) - a < b) = false := by simp; omega
        have c6 : ((a : Int) % b != 0) = false := by simp; omega
        have c7 : decide (n < a) = false := by simp; omega
        clear hok hb0 o4
        go_wp2_with fail
        with_reducible refine hw.mono ?_
        rintro e w3 ⟨rfl, f3⟩
        have hT3 := hTr.fr f3 (by simp)
        have hB3 := hB.fr f3 (by simp)
        have hF3 := hF.trans f3
        clear f3 hTr hB hF hw
        go_wp2_with fail
        have HI := Lib.hid (show ∀ v wr, FldIn w' l g a b v wr = (∃ j : Nat, j ≤ b ∧ v = .int .i64 j ∧ Fr [] w' wr ∧ Tabs wr ∧ Blk wr g 3 (ints (incr l a j))) from fun _ _ => rfl)
        generalize FldIn w' l g a b = RI at *
        go_loopw [8] (fun v W => RI v W) (fun v _ => b - (intOf v).toNat)
        case atStart => rw [HI.out]; exact ⟨0, by omega, rfl, hF3, hT3, hB3⟩
        case round =>
          clear hF3 hT3 hB3
          rename_i hrel
          rw [HI.out] at hrel
          obtain ⟨j, hj, rfl, hF, hTr, hB⟩ := hrel
          by_cases hlj : j < b
          · have hgc := hB.cell (a + j)
            have hgf := hB.frozen (a + j)
            rw [ints_get _ _ (by rw [incr_len, HL2.out]; omega)] at hgc
            have hold : (incr l a j)[a + j]?.getD 0 ≤ 12 := by
              rcases e : (incr l a j)[a + j]? with _ | y
              · simp
              · simpa using HSM2.out j (by omega) y (List.mem_of_getElem? e)
            have HS1 := Lib.hid (show incr l a (j + 1) = (incr l a j).set (a + j) ((incr l a j)[a + j]?.getD 0 + 1) from rfl)
            generalize (incr l a j)[a + j]?.getD 0 = old at *
            have i1 : a + j < n := by omega
            go_wp2_with fail
            rw [HI.out]
            refine ⟨⟨j + 1, by omega, by go_num, hF.setCell (.inr (by rw [HG.out]; exact Nat.le_refl _)) _, ?_, ?_⟩, by simp [intOf]; omega⟩
            · exact hTr.fr ((Fr.refl [g] wr).setCell (.inl (by simp)) _) (by have := hT.size; simp; rw [HG.out]; omega)
            · have := hB.set (a + j) (.int .i64 ((old + 1 : Nat) : Int))
              rw [ints_set, ← HS1.out] at this
              exact this
          · obtain rfl : j = b := by omega
            go_wp2_with fail
            rw [HR.out]
            exact ⟨⟨k + 1, by omega, by go_num, hF, hTr, by rw [HSS.out]; exact hB⟩, by simp [intOf]; omega⟩
    · obtain rfl : k = 12 := by omega
      clear hwh
      rw [HSA.out, ← HN.out] at hB
      go_wp2_with fail
      have HE := Lib.hid (show ∀ v wr, FldEnd w' n g v wr = (∃ j : Nat, j ≤ n ∧ v = .int .i64 j ∧ Fr [] w' wr ∧ Tabs wr ∧ Blk wr g 3 (ints (List.replicate n 1))) from fun _ _ => rfl)
      generalize FldEnd w' n g = RE at *
      go_loopw [9] (fun v W => RE v W) (fun v _ => n - (intOf v).toNat)
      case atStart => rw [HE.out]; exact ⟨0, by omega, rfl, hF, hTr, hB⟩
      case round =>
        clear hF hTr hB
        rename_i hrel
        rw [HE.out] at hrel
        obtain ⟨j, hj, rfl, hF, hTr, hB⟩ := hrel
        by_cases hlj : j < n
        · have hgc := hB.cell j
          rw [ints_get _ _ (by simpa using hlj)] at hgc
          have e1 : (List.replicate n 1)[j]?.getD 0 = 1 := by simp [hlj]
          rw [e1] at hgc
          clear e1
          go_wp2_with fail
          rw [HE.out]
          exact ⟨⟨j + 1, by omega, by go_num, hF, hTr, hB⟩, by simp [intOf]; omega⟩
        · obtain rfl : j = n := by omega
          go_wp2_with fail
          with_reducible refine (h5 _ hTr).mono ?_
          rintro e w4 ⟨rfl, f4⟩
          have F4 := hF.trans f4
          go_wp2_with fail
          go_ret
          exact ⟨rfl, F4⟩

theorem walk_fields (w : World) (hT : Tabs w) (tag : Int) : Calls Tryd.prog 6 #[.int .i64 tag] w fun e w' => e = .returned (.bool true) ∧ Fr [] w w' := by
  by_cases h : tag < 0 ∨ 2 < tag
  · exact fields_off w hT tag h
  · obtain ⟨t, rfl⟩ : ∃ t : Nat, tag = t := ⟨tag.toNat, by omega⟩
    refine fields_in w hT t (sz t) (by omega) rfl ?_ ?_
    · have : t = 0 ∨ t = 1 ∨ t = 2 := by omega
      rcases this with rfl | rfl | rfl <;> decide
    · have : t = 0 ∨ t = 1 ∨ t = 2 := by omega
      rcases this with rfl | rfl | rfl <;> decide
end Go.Proofs.YtagnelfnjlfhnaaDoor
