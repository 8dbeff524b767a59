/- The walk of WatchMarks, its loop. -/
import Derived.Test.YtgkpbmgbaonbhaaLaw11m
import Derived.Deep.RegionHeld3
namespace Go.Proofs.Ytgkpbmgbaonbhaa
set_option linter.unusedVariables false
open Go.RowKit

/-- One watch, at each round's head. -/
def MarkRel (B : World) (p b m len : Nat) (i : Value) (wr : World) : Prop :=
  ∃ t : Nat, t ≤ len ∧ i = .int .i64 t ∧ ∃ ks, IsW wr p b ks 0 0 ∧ ks.length = m ∧ Below B.heap.size B wr

set_option maxRecDepth 100000 in
set_option maxHeartbeats 8000000 in
theorem marks_c (w : World) (m : Nat) (at_ : Int) (a : Option Addr) (len cap : Nat) (l : List (Int × Int × Int × Int)) (hm1 : 1 ≤ m) (hm2 : m ≤ 256) (hlen : len ≤ 60) (hl : Acts w a len l) (ha : at_ ≤ 9223372036854775807) :
    Calls Try.prog 4 #[.int .i64 (4 * m), .slice a len cap, .int .i64 at_] w fun e w' => e = .returned (.bool true) ∧ Below w.heap.size w w' := by
  have h1 : (4 : Int) * m ≤ 1024 := by omega
  go_enter Try.func4, Try.ntmps4
  go_wp2_with fail
  refine (new_yes w m hm1 (by omega)).mono ?_
  rintro e w1 ⟨p, b, rfl, hw1, hp, hbb, f1⟩
  have hB1 : Below w.heap.size w w1 := f1.below (Nat.le_refl _) (by simp)
  clear f1
  go_wp2_with fail
  go_loopw [8] (fun i wr => MarkRel w p b m len i wr) (fun i _ => len - (intOf i).toNat)
  case atStart => exact ⟨0, Nat.zero_le _, rfl, _, hw1, by simp, hB1⟩
  case round =>
    clear hw1 hB1
    obtain ⟨t, ht, rfl, ks, hT, hks, hB⟩ := hrel
    by_cases hlt : t < len
    · obtain ⟨B, off, rfl, hBl, hcell⟩ := hl.2 (by omega)
      have hlt' : t < l.length := by rw [hl.1]; exact hlt
      obtain ⟨d0, d1, d2, d3⟩ := hcell t hlt'
      have e0 := (hB.cell (p := ⟨B, off + t * 4, none⟩) hBl).trans d0
      have e1 := (hB.cell (p := ⟨B, off + t * 4 + 1, none⟩) hBl).trans d1
      have e2 := (hB.cell (p := ⟨B, off + t * 4 + 2, none⟩) hBl).trans d2
      have e3 := (hB.cell (p := ⟨B, off + t * 4 + 3, none⟩) hBl).trans d3
      have hpl := hT.st.lt
      have hbl := hT.row.lt
      generalize l[t] = y at *
      obtain ⟨yk, yx, yn, yo⟩ := y
      simp only at e0 e1 e2 e3
      clear d0 d1 d2 d3 hcell hl hlt'
      have hg2 : (0 : Int) ≤ t := by omega
      have hg3 : (t : Int) < len := by omega
      have hn4 : (4 : Int) * ks.length = 4 * m := by rw [hks]
      have HN := Lib.hid hn4
      have HK := Lib.hid hks
      clear hn4 hks
      go_wp2_with fail
      obtain ⟨W1, hW1⟩ : ∃ W1, wr.alloc (.cells #[.int .i64 yk, .int .i64 yx, .int .i64 yn, .int .i64 yo] 29) = W1 := ⟨_, rfl⟩
      have bY : Blk W1 wr.heap.size 29 #[.int .i64 yk, .int .i64 yx, .int .i64 yn, .int .i64 yo] := by rw [← hW1]; exact Blk.new _ _ _
      have f1 : Fr [] wr W1 := by rw [← hW1]; exact (Fr.refl _ _).alloc _
      rw [hW1]
      clear hW1
      refine (kind_all W1 p b ks 0 0 at_ 1 (hT.fr f1 (by simp) (by simp))).mono ?_
      rintro e W2 ⟨rfl, rfl⟩
      have hY := bY.cell
      go_wp2_with fail
      refine (mark_all W1 p b ks 0 0 yx yn yo (hT.fr f1 (by simp) (by simp))).mono ?_
      rintro e W2 ⟨rfl, hT2, f2⟩
      have bY2 := bY.fr f2 (by first | (simp; done) | (simp; omega))
      have hkn := kind_all W2 p b _ 0 0 at_ 1 hT2
      have hka := kind_all W2 p b _ 0 0 yx yn hT2
      have hB2 : Below w.heap.size w W2 := hB.trans ((f1.join f2).below hB.size (by first | (simp; done) | (simp; omega)))
      clear hY
      have hY := bY2.cell
      have hfin : ∀ n, MarkRel w p b m len (.int .i64 ((t : Int) + 1)) (W2.drewN n) := fun n => ⟨t + 1, by omega, by go_num, _, ⟨hT2.st, hT2.row, hT2.len, hT2.le⟩, by rw [newK_length]; exact HK.out, bdrewN hB2 n⟩
      by_cases hE : markE (4 * ks.length) yx yn yo = 0
      · obtain ⟨⟨j1, j2⟩, ⟨j3, j4, j5, j6⟩, j7, j8⟩ := markE_ok _ _ _ _ hE
        obtain ⟨k, rfl⟩ : ∃ k : Nat, yo = k := ⟨yo.toNat, by omega⟩
        have hN5 : (4 : Int) * ks.length = 4 * m := HN.out
        have j5' : yx ≤ 4 * m := by omega
        have j6' : yn ≤ 4 * m - yx := by omega
        clear hN5 j5 j6
        have hin := newK_in ks yx yn k at_ hE
        have hout := newK_out ks yx yn k at_
        have hall := newK_all ks yx yn k hE
        rw [hE]
        have hn4 : ((4 * ks.length : Nat) : Int) = 4 * m := by have := HN.out; omega
        have hEb : ((0 : Int) == 0) = true := rfl
        have hquiet : ∀ n, kindL (newK ks yx yn k) yx yn = k → Calls Try.prog 13 #[.pointer (some ⟨p, 0, none⟩), .int .i64 yx, .int .i64 yn] (W2.drewN n) fun e w' => e = .returned (.int .i64 k) ∧ W2.drewN n = w' := fun n h => by
          have := kind_all (W2.drewN n) p b (newK ks yx yn k) 0 0 yx yn ⟨hT2.st, hT2.row, hT2.len, hT2.le⟩
          rw [h] at this
          exact this
        clear hka
        by_cases hI : yx ≤ at_ ∧ at_ - yx < yn
        · obtain ⟨i1, i2⟩ := hI
          have i3 : at_ < 4 * m := by omega
          rw [hin i1 i2, Int.toNat_natCast] at hkn
          have i4 : 0 < yn := by omega
          have hq := fun n => hquiet n (by rw [hall i4, Int.toNat_natCast])
          have i5 : decide (0 < yn) = true := by simpa using i4
          clear hquiet hin hout hall hE
          go_wp2_with fail
          refine hkn.mono ?_
          rintro e W3 ⟨rfl, rfl⟩
          go_wp2_with fail
          go_quiet ((go_at_call 13; exact quiet_left (hq _)))
          go_wp2
          go_roundw
          case rel => exact hfin _
          case measure => simp [intOf]; omega
        · rw [hout (fun _ hh => hI ⟨hh.1, hh.2.1⟩)] at hkn
          clear hin hout hE
          by_cases i4 : 0 < yn
          · have hq := fun n => hquiet n (by rw [hall i4, Int.toNat_natCast])
            have i5 : decide (0 < yn) = true := by simpa using i4
            clear hquiet hall
            by_cases i1 : yx ≤ at_
            · have i2 : ¬ at_ - yx < yn := fun h => hI ⟨i1, h⟩
              clear hI
              go_wp2_with fail
              refine hkn.mono ?_
              rintro e W3 ⟨rfl, rfl⟩
              go_wp2_with fail
              go_quiet ((go_at_call 13; exact quiet_left (hq _)))
              go_wp2
              go_roundw
              case rel => exact hfin _
              case measure => simp [intOf]; omega
            · clear hI
              go_wp2_with fail
              refine hkn.mono ?_
              rintro e W3 ⟨rfl, rfl⟩
              go_wp2_with fail
              go_quiet ((go_at_call 13; exact quiet_left (hq _)))
              go_wp2
              go_roundw
              case rel => exact hfin _
              case measure => simp [intOf]; omega
          · have i5 : decide (0 < yn) = false := by simpa using i4
            clear hquiet hall
            by_cases i1 : yx ≤ at_
            · have i2 : ¬ at_ - yx < yn := fun h => hI ⟨i1, h⟩
              clear hI
              go_wp2_with fail
              refine hkn.mono ?_
              rintro e W3 ⟨rfl, rfl⟩
              go_wp2_with fail
              go_quiet (fail)
              go_wp2
              go_roundw
              case rel => exact hfin _
              case measure => simp [intOf]; omega
            · clear hI
              go_wp2_with fail
              refine hkn.mono ?_
              rintro e W3 ⟨rfl, rfl⟩
              go_wp2_with fail
              go_quiet (fail)
              go_wp2
              go_roundw
              case rel => exact hfin _
              case measure => simp [intOf]; omega
      · have hout := newK_out ks yx yn yo at_ (fun h => absurd h hE)
        rw [hout] at hkn
        have hEb : (markE (4 * ks.length) yx yn yo == 0) = false := by simpa using hE
        clear hout hE
        generalize markE (4 * ks.length) yx yn yo = E at *
        go_wp2_with fail
        refine hkn.mono ?_
        rintro e W3 ⟨rfl, rfl⟩
        go_wp2_with fail
        go_quiet (fail)
        go_wp2
        go_roundw
        case rel => exact hfin _
        case measure => simp [intOf]; omega
    · have hw := watches_any wr
      go_wp2_with (go_at_call 8; refine hw.mono ?_; rintro e w' ⟨rfl, hB'⟩)
      go_ret
      exact ⟨rfl, hB.trans (hB'.mono hB.size)⟩
end Go.Proofs.Ytgkpbmgbaonbhaa
