/- Package memory: field, Root, SetRoot, Config, Faults. -/
import Derived.Test.YtcagljjbiodcoaaDoorMem
namespace Go.Proofs.YtcagljjbiodcoaaDoor
set_option linter.unusedVariables false
open Go.RowKit

def fldL : List Nat := [8, 12, 16, 20, 24, 28, 32, 36, 40, 44, 48, 52, 56, 60, 64, 68, 72, 80, 84, 88, 92]
def fldA (f : Nat) : Nat := fldL[f]?.getD 0
def fldW (f : Nat) : Nat := if f = 16 then 8 else 4
theorem fldT_get (f : Nat) (h : f < 21) : fldT[f]? = some (.int .i64 (fldA f)) := by
  rcases f with _ | _ | _ | _ | _ | _ | _ | _ | _ | _ | _ | _ | _ | _ | _ | _ | _ | _ | _ | _ | _ | f <;> first | rfl | omega

theorem mfield (w : World) (hM : TabM w) (f : Nat) (h : f < 21) : Calls Tryd.prog 95 #[.int .i64 f] w fun e w' => e = .returned (.tuple #[.int .i64 (fldA f), .int .i64 (fldW f)]) ∧ w' = w := by
  have hc := (hM.fld f).trans (fldT_get f h)
  have b0 : decide ((f : Int) < 0) = false := by simp
  have b1 : decide ((21 : Int) ≤ f) = false := by simp; omega
  have b2 : decide (21 ≤ f) = false := by simp; omega
  have h1 : (f : Int) < 21 := by omega
  unfold fldW
  generalize fldA f = x at *
  by_cases h16 : f = 16
  · have b3 : ((f : Int) == 16) = true := by simp; omega
    rw [if_pos h16]
    clear h16
    go_enter Tryd.func95, Tryd.ntmps95
    go_wp2_with fail
    go_ret2
    exact ⟨rfl, rfl⟩
  · have b3 : ((f : Int) == 16) = false := by simp; omega
    rw [if_neg h16]
    clear h16
    go_enter Tryd.func95, Tryd.ntmps95
    go_wp2_with fail
    go_ret2
    exact ⟨rfl, rfl⟩
theorem fldW_pos (f : Nat) : 4 ≤ fldW f ∧ fldW f ≤ 8 := by unfold fldW; split <;> omega

theorem mroot (w : World) (hM : TabM w) (q : MH) (z : MS) (h : IsM w q z) (f : Nat) (hf : f < 21) :
    Calls Tryd.prog 54 #[.pointer (some ⟨q.m, 0, none⟩), .int .i64 f] w fun e w' => e = .returned (.int .u64 (z.ld (fldA f) (fldW f) 2)) ∧ IsM w' q (z.look (fldA f) (fldW f) 2) ∧ Fr [q.pw] w w' := by
  have hfl := mfield w hM f hf
  have hld := mload w q z h (fldA f) (fldW f) 2
  have hw := fldW_pos f
  generalize z.ld (fldA f) (fldW f) 2 = v at *
  generalize z.look (fldA f) (fldW f) 2 = z' at *
  generalize fldA f = x at *
  generalize fldW f = y at *
  have b0 : ((y : Int) == 0) = false := by simp; omega
  clear h hM
  go_enter Tryd.func54, Tryd.ntmps54
  go_wp2_with fail
  with_reducible refine hfl.mono ?_
  rintro e w' ⟨rfl, rfl⟩
  go_wp2_with fail
  with_reducible refine hld.mono ?_
  rintro e w2 ⟨rfl, hM2, f2⟩
  go_wp2_with fail
  go_ret
  exact ⟨rfl, hM2, f2⟩

theorem msetroot (w : World) (hM : TabM w) (q : MH) (z : MS) (h : IsM w q z) (f : Nat) (hf : f < 21) (v : Nat) (hv : v < 18446744073709551616) :
    Calls Tryd.prog 53 #[.pointer (some ⟨q.m, 0, none⟩), .int .i64 f, .int .u64 v] w fun e w' => e = .returned (.bool (z.stB (fldA f) (fldW f) 2 v)) ∧ IsM w' q (z.sto (fldA f) (fldW f) 2 v) ∧ Fr [q.pw, q.ga] w w' := by
  have hfl := mfield w hM f hf
  have hst := mstore w q z h (fldA f) (fldW f) 2 v hv
  have hw := fldW_pos f
  generalize z.stB (fldA f) (fldW f) 2 v = r at *
  generalize z.sto (fldA f) (fldW f) 2 v = z' at *
  generalize fldA f = x at *
  generalize fldW f = y at *
  have b0 : decide ((0 : Int) < y) = true := by simp; omega
  clear h hM
  go_enter Tryd.func53, Tryd.ntmps53
  go_wp2_with fail
  with_reducible refine hfl.mono ?_
  rintro e w' ⟨rfl, rfl⟩
  go_wp2_with fail
  with_reducible refine hst.mono ?_
  rintro e w2 ⟨rfl, hM2, f2⟩
  go_wp2_with fail
  go_ret
  exact ⟨rfl, hM2, f2⟩

theorem mconfig (w : World) (q : MH) (z : MS) (h : IsM w q z) :
    Calls Tryd.prog 52 #[.pointer (some ⟨q.m, 0, none⟩)] w fun e w' => e = .returned (cfgV z.a z.s) ∧ Fr [] w w' := by
  have hn := (h.fr0 ((Fr.refl [] w).alloc (.cells #[.int .i64 0, .int .i64 0] 33))).none
  have c2 := h.st.cell 2
  have c3 := h.st.cell 3
  have hl := h.st.lt
  simp at c2 c3
  unfold cfgV
  generalize z.a = a at *
  generalize z.s = s at *
  clear h
  go_enter Tryd.func52, Tryd.ntmps52
  go_wp2_with fail
  with_reducible refine hn.mono ?_
  rintro e w' ⟨rfl, rfl⟩
  go_wp2_with fail
  go_returns
  exact ⟨rfl, (Fr.refl [] w).alloc _⟩

theorem mfaults (w : World) (q : MH) (z : MS) (h : IsM w q z) :
    Calls Tryd.prog 22 #[.pointer (some ⟨q.m, 0, none⟩)] w fun e w' => e = .returned (.int .i64 z.ft) ∧ Fr [] w w' := by
  have hn := h.none
  have c0 := h.st.cell 0
  obtain ⟨lk, hw⟩ := h.wt
  have hf := fun W hW => faults_some W q.pw q.bw z.ks lk z.ft hW
  simp at c0
  have HW := Lib.hid hw
  have hl := hw.st.lt
  generalize z.ft = t at *
  generalize z.ks = ks at *
  clear h hw
  go_enter Tryd.func22, Tryd.ntmps22
  go_wp2_with fail
  with_reducible refine hn.mono ?_
  rintro e w' ⟨rfl, rfl⟩
  have hcf : ∀ W, IsW W q.pw q.bw ks lk t → Calls Tryd.prog 56 #[.agg #[.pointer (some ⟨q.pw, 0, none⟩)]] W fun e w' => e = .returned (.int .i64 t) ∧ Fr [] W w' := fun W hW => by
    have hfa := hf _ (hW.fr (S := []) ((Fr.refl _ _).alloc (.cells #[.pointer (some ⟨q.pw, 0, none⟩)] 90)) (by simp) (by simp))
    clear hf hW HW
    go_enter Tryd.func56, Tryd.ntmps56
    go_wp2_with fail
    with_reducible refine hfa.mono ?_
    rintro e w' ⟨rfl, rfl⟩
    go_wp2_with fail
    go_ret
    exact ⟨rfl, (Fr.refl [] W).alloc _⟩
  go_wp2_with fail
  with_reducible refine (hcf _ HW.out).mono ?_
  rintro e w2 ⟨rfl, f2⟩
  go_wp2_with fail
  go_ret
  exact ⟨rfl, f2⟩
end Go.Proofs.YtcagljjbiodcoaaDoor
