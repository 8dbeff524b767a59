/- Right: the document's. -/
import Derived.Test.YtagnelfnjlfhnaaDoorH13f
namespace Go.Proofs.YtagnelfnjlfhnaaDoor
set_option linter.unusedVariables false
open Go.RowKit

def XRel (w : World) (x : HB) (v : Value) (wr : World) : Prop := ∃ k : Nat, k ≤ 12 ∧ v = .int .i64 k ∧ Fr [] w wr ∧ Blk wr w.heap.size 26 x.cells ∧ x.lackTo k = false

theorem lack_end (x : HB) (k : Nat) (hk : k < 12) (h : x.lackTo (k + 1) = true) : x.lackTo 12 = true := by
  have : ∀ j, x.lackTo (k + 1 + j) = true := fun j => by
    induction j with
    | zero => exact h
    | succ j ih => rw [← Nat.add_assoc, HB.lackTo, ih, Bool.true_or]
  have := this (12 - (k + 1))
  rwa [show k + 1 + (12 - (k + 1)) = 12 by omega] at this

set_option maxRecDepth 100000 in
set_option maxHeartbeats 8000000 in
theorem xright_in (w : World) (x : HB) (hx : x.Ok) (ht : 0 ≤ x.tag ∧ x.tag ≤ 2) (h2 : 0 ≤ x.size ∧ x.size ≤ 480) :
    Calls Tryd.prog 14 #[x.val] w fun e w' => e = .returned (.bool (!x.lackTo 12 && rightT x.tag x.cls x.label x.used)) ∧ Fr [] w w' := by
  have hwh := fun W f => xwhere_any W x.tag f
  have hnu := fun W f hf => xnumber W x hx f hf
  have hlack : ∀ k, x.lackTo (k + 1) = (x.lackTo k || (x.num k != 0 && (whZ x.tag k).2 == 0)) := fun k => rfl
  have HE := Lib.hid (lack_end x)
  have hXR : ∀ v wr, XRel w x v wr = (∃ k : Nat, k ≤ 12 ∧ v = .int .i64 k ∧ Fr [] w wr ∧ Blk wr w.heap.size 26 x.cells ∧ x.lackTo k = false) := fun _ _ => rfl
  generalize XRel w x = R at *
  have h0 : x.lackTo 0 = false := rfl
  generalize x.num = num at *
  generalize x.lackTo = lack at *
  obtain ⟨tag, cls, used, label, name, next, prev, refs, expiry, typ, size, hash⟩ := x
  simp only [HB.val, HB.cells] at *
  obtain ⟨ht1, ht2⟩ := ht
  obtain ⟨hs1, hs2⟩ := h2
  have b0 : decide (tag < 0) = false := by simp; omega
  have b1 : decide (2 < tag) = false := by simp; omega
  have b2 : decide (size < 0) = false := by simp; omega
  have b3 : decide (480 < size) = false := by simp; omega
  have HL := Lib.hid hlack
  have HX := Lib.hid hXR
  have H0 := Lib.hid h0
  clear hlack hXR h0 hx
  go_enter Tryd.func14, Tryd.ntmps14
  go_wp2_with fail
  go_loopw [3] (fun v W => R v W) (fun v _ => 12 - (intOf v).toNat)
  case atStart => rw [HX.out]; exact ⟨0, by omega, rfl, (Fr.refl _ _).alloc _, Blk.new _ _ _, H0.out⟩
  case round =>
    rw [HX.out] at hrel
    obtain ⟨k, hk, rfl, hF, hB, hl⟩ := hrel
    (have c0 := hB.cell 0; have c1 := hB.cell 1; have c2 := hB.cell 2; have c3 := hB.cell 3; have c4 := hB.cell 4; have c5 := hB.cell 5; have c6 := hB.cell 6; have c7 := hB.cell 7; have c8 := hB.cell 8; have c9 := hB.cell 9; have c10 := hB.cell 10; have c11 := hB.cell 11; simp [HB.cells] at c0 c1 c2 c3 c4 c5 c6 c7 c8 c9 c10 c11)
    have hlt := hB.lt
    have HL2 := Lib.hid hl
    clear hl
    by_cases hk12 : k < 12
    · have hw := hwh wr k
      have hn := fun W => hnu W k hk12
      have hnext : lack (k + 1) = (num k != 0 && (whZ tag k).2 == 0) := by rw [HL.out, HL2.out, Bool.false_or]
      clear hwh hnu
      generalize whZ tag k = ab at *
      obtain ⟨a, b⟩ := ab
      generalize num k = n at *
      simp only [twoV] at hw hnext
      have HN := Lib.hid hnext
      clear hnext
      go_wp2_with fail
      with_reducible refine hw.mono ?_
      rintro e w1 ⟨rfl, f1⟩
      have hB1 := hB.fr f1 (by simp)
      have hF1 := hF.trans f1
      clear hB hF f1
      clear c0 c1 c2 c3 c4 c5 c6 c7 c8 c9 c10 c11
      (have c0 := hB1.cell 0; have c1 := hB1.cell 1; have c2 := hB1.cell 2; have c3 := hB1.cell 3; have c4 := hB1.cell 4; have c5 := hB1.cell 5; have c6 := hB1.cell 6; have c7 := hB1.cell 7; have c8 := hB1.cell 8; have c9 := hB1.cell 9; have c10 := hB1.cell 10; have c11 := hB1.cell 11; simp [HB.cells] at c0 c1 c2 c3 c4 c5 c6 c7 c8 c9 c10 c11)
      by_cases hb : b = 0
      · have hbb : ((b : Int) == 0) = true := by simpa using hb
        by_cases hn0 : n = 0
        · have hnn : ((n : Int) != 0) = false := by simpa using hn0
          have hnx : lack (k + 1) = false := by rw [HN.out, hn0]; rfl
          have HNX := Lib.hid hnx
          clear hnx hb hn0
          go_wp2_with fail
          with_reducible refine (hn _).mono ?_
          rintro e w2 ⟨rfl, f2⟩
          have hB2 := hB1.fr f2 (by simp)
          have hF2 := hF1.trans f2
          clear hB1 hF1 f2
          go_wp2
          rw [HX.out]
          exact ⟨⟨k + 1, by omega, by go_num, hF2, hB2, HNX.out⟩, by simp [intOf]; omega⟩
        · have hnn : ((n : Int) != 0) = true := by simp; omega
          have hnx : lack (k + 1) = true := by rw [HN.out, hb]; simp; omega
          have hend := HE.out k hk12 hnx
          have HNX := Lib.hid hend
          clear hnx hb hn0 hend
          go_wp2_with fail
          with_reducible refine (hn _).mono ?_
          rintro e w2 ⟨rfl, f2⟩
          have hF2 := hF1.trans f2
          clear hB1 hF1 f2
          go_wp2
          go_returns
          exact ⟨by rw [HNX.out]; rfl, hF2⟩
      · have hbb : ((b : Int) == 0) = false := by simp; omega
        have hnx : lack (k + 1) = false := by rw [HN.out]; simp; omega
        have HNX := Lib.hid hnx
        clear hnx hb hn
        go_wp2_with fail
        rw [HX.out]
        exact ⟨⟨k + 1, by omega, by go_num, hF1, hB1, HNX.out⟩, by simp [intOf]; omega⟩
    · obtain rfl : k = 12 := by omega
      clear hwh hnu
      go_wp2_with fail
      all_goals
        go_returns
        refine ⟨ret_bool ?_, hF⟩
        go_light
        rw [HL2.out, rightT]
        clear HL HL2 HX HE H0 hB
        clear c0 c1 c2 c3 c4 c5 c6 c7 c8 c9 c10 c11
        rw [Bool.eq_iff_iff]
        cases used <;> first | (simp_all; done) | (simp_all; omega) | (simp; omega)
end Go.Proofs.YtagnelfnjlfhnaaDoor
