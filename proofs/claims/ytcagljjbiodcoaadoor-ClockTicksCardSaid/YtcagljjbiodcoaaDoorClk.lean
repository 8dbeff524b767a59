/- Package clock. -/
import Derived.Test.YtcagljjbiodcoaaDoorTmC
namespace Go.Proofs.YtcagljjbiodcoaaDoor
set_option linter.unusedVariables false
open Go.RowKit

theorem least_any (w : World) (x y g : Nat) (hc : w.cell? ⟨g, 0, none⟩ = some (.int .u64 y)) :
    Calls Tryd.prog 45 #[.int .u64 x, .slice (some ⟨g, 0, none⟩) 1 1] w fun e w' => e = .returned (.int .u64 (min x y : Nat)) ∧ w' = w := by
  go_enter Tryd.func45, Tryd.ntmps45
  go_wp2_with fail
  go_loop [0, 9] (fun v i => (i = .int .i64 0 ∧ v = .int .u64 x) ∨ (i = .int .i64 1 ∧ v = .int .u64 (min x y : Nat))) (fun _ i => 1 - (intOf i).toNat)
  case atStart => exact .inl ⟨rfl, rfl⟩
  case round =>
    rcases hrel with ⟨rfl, rfl⟩ | ⟨rfl, rfl⟩
    · go_wp2_with fail
      refine ⟨.inr ⟨rfl, ?_⟩, by decide⟩
      split <;> (congr 1; omega)
    · go_wp2_with fail
      go_ret
      exact ⟨rfl, rfl⟩
def csum (a b m : Nat) : Nat := min a m + min b (m - min a m)
theorem csum_le (a b m : Nat) : csum a b m ≤ m := by unfold csum; omega
theorem sum_any (w : World) (a b m : Nat) (hm : m ≤ 9223372036854775808) :
    Calls Tryd.prog 46 #[.int .u64 a, .int .u64 b, .int .u64 m] w fun e w' => e = .returned (.int .u64 (csum a b m)) ∧ Fr [] w w' := by
  have hl := fun W x y g hc => least_any W x y g hc
  have hcm : min a m ≤ m := by omega
  unfold csum
  generalize hc : min a m = c at *
  have HC := Lib.hid hc
  clear hc
  have hs : ((m - c : Nat) : Int) = m - c := by omega
  go_enter Tryd.func46, Tryd.ntmps46
  go_wp2_with fail
  with_reducible refine (hl _ a m w.heap.size ((Blk.new w _ _).cell 0)).mono ?_
  rw [HC.out]
  rintro e w' ⟨rfl, rfl⟩
  go_wp2_with fail
  have hb := cell_new0 (w.alloc (.cells #[.int .u64 m] 22)) (.int .u64 ((m : Int) - c)) 22
  rw [World.size_alloc] at hb
  with_reducible refine (hl _ b (m - c) (w.heap.size + 1) (by rw [hs]; exact hb)).mono ?_
  generalize hd : min b (m - c) = d
  have hd' : d ≤ m - c := by omega
  have HD := Lib.hid hd
  have HT := Lib.hid hs
  clear hd hb hs
  rintro e w' ⟨rfl, rfl⟩
  go_wp2_with fail
  go_ret
  refine ⟨by rw [HD.out, Int.natCast_add]; rfl, ?_⟩
  exact ((Fr.refl [] w).alloc _).alloc _

def cend (now life : Nat) : Nat := if life = 0 then 0 else csum now life 9223372036854775808
theorem end_any (w : World) (a b : Nat) : Calls Tryd.prog 12 #[.int .u64 a, .int .u64 b] w fun e w' => e = .returned (.int .u64 (cend a b)) ∧ Fr [] w w' := by
  have hs : ∀ W, Calls Tryd.prog 46 #[.int .u64 a, .int .u64 b, .int .u64 9223372036854775808] W fun e w' => e = .returned (.int .u64 (csum a b 9223372036854775808)) ∧ Fr [] W w' := fun W => sum_any W a b 9223372036854775808 (by omega)
  unfold cend
  by_cases h0 : b = 0
  · have b0 : ((b : Int) == 0) = true := by simp; omega
    rw [if_pos h0]
    clear h0
    go_enter Tryd.func12, Tryd.ntmps12
    go_wp2_with fail
    go_ret
    exact ⟨rfl, Fr.refl _ _⟩
  · have b0 : ((b : Int) == 0) = false := by simp; omega
    rw [if_neg h0]
    generalize csum a b 9223372036854775808 = c at *
    clear h0
    go_enter Tryd.func12, Tryd.ntmps12
    go_wp2_with fail
    with_reducible refine (hs _).mono ?_
    rintro e w' ⟨rfl, f1⟩
    go_wp2_with fail
    go_ret
    exact ⟨rfl, f1⟩
def cover (now e : Nat) : Bool := decide (e ≠ 0 ∧ e ≤ now)
theorem over_any (w : World) (a b : Nat) : Calls Tryd.prog 14 #[.int .u64 a, .int .u64 b] w fun e w' => e = .returned (.bool (cover a b)) ∧ w' = w := by
  unfold cover
  by_cases h0 : b = 0
  · have b0 : ((b : Int) != 0) = false := by simp; omega
    have : decide (b ≠ 0 ∧ b ≤ a) = false := by simp; omega
    rw [this]
    clear h0 this
    go_enter Tryd.func14, Tryd.ntmps14
    go_wp2_with fail
    go_ret
    exact ⟨rfl, rfl⟩
  · have b0 : ((b : Int) != 0) = true := by simp; omega
    have : decide (b ≠ 0 ∧ b ≤ a) = decide (b ≤ a) := by simp; omega
    rw [this]
    clear h0 this
    go_enter Tryd.func14, Tryd.ntmps14
    go_wp2_with fail
    go_ret
    exact ⟨by simp, rfl⟩
def cleft (now e : Nat) : Nat := if e = 0 then 0 else e - min now e
theorem left_any (w : World) (a b : Nat) (hb : b < 18446744073709551616) : Calls Tryd.prog 10 #[.int .u64 a, .int .u64 b] w fun e w' => e = .returned (.tuple #[.int .u64 (cleft a b), .bool (b != 0)]) ∧ Fr [] w w' := by
  have hl := fun W x y g hc => least_any W x y g hc
  unfold cleft
  by_cases h0 : b = 0
  · have b0 : ((b : Int) == 0) = true := by simp; omega
    rw [if_pos h0, show (b != 0) = false by simp; omega]
    clear h0
    go_enter Tryd.func10, Tryd.ntmps10
    go_wp2_with fail
    go_ret2
    exact ⟨rfl, Fr.refl _ _⟩
  · have b0 : ((b : Int) == 0) = false := by simp; omega
    rw [if_neg h0, show (b != 0) = true by simp; omega]
    clear h0
    have hd' : min a b ≤ b := by omega
    generalize hd : min a b = d at *
    have HD := Lib.hid hd
    clear hd
    have HE := Lib.hid (show ((b - d : Nat) : Int) = b - d by omega)
    have hw := u64_nat (b - d) (by omega)
    rw [HE.out] at hw
    go_enter Tryd.func10, Tryd.ntmps10
    go_wp2_with fail
    with_reducible refine (hl _ a b w.heap.size ((Blk.new w _ _).cell 0)).mono ?_
    rw [HD.out]
    rintro e w' ⟨rfl, rfl⟩
    go_wp2_with fail
    go_ret2
    exact ⟨by rw [HE.out]; rfl, (Fr.refl [] w).alloc _⟩

theorem now_any {w : World} {q : MH} {t : TM} (h : IsT w q t) :
    Calls Tryd.prog 21 #[.pointer (some ⟨q.m, 0, none⟩)] w fun e w' => e = .returned (.int .u64 (t.rt 16)) ∧ IsT w' q t ∧ Fr q.blocks w w' := by
  have hr := troot h 16 (by omega) 16 rfl
  generalize t.rt 16 = v at *
  clear h
  go_enter Tryd.func21, Tryd.ntmps21
  go_wp2_with fail
  with_reducible refine hr.mono ?_
  rintro e w' ⟨rfl, h1, f1⟩
  go_wp2_with fail
  go_ret
  exact ⟨rfl, h1, f1⟩
theorem cbegin_any {w : World} {q : MH} {t : TM} (h : IsT w q t) :
    Calls Tryd.prog 18 #[.pointer (some ⟨q.m, 0, none⟩)] w fun e w' => e = .returned (.int .i64 0) ∧ IsT w' q (t.setRt 16 0) ∧ Fr q.blocks w w' := by
  have hc := tconfig h
  have hs : ∀ W, Fr [] w W → _ := fun W hf => tsetroot (h.fr0 hf) 16 (by omega) 0 (by decide) 16 rfl 0 rfl
  have hE : ∀ w, (Op.equalIn 10000 33 (.agg #[.int .i64 t.a, .int .i64 t.s]) (.agg #[.int .i64 0, .int .i64 0])).run Tryd.prog w = .ok false w := fun w => by
    have := h.ok.cfg.a1
    rw [eq_cfg, show ((t.a : Int) == 0) = false by simp; omega, Bool.false_and]
  unfold cfgV at hc
  generalize t.setRt 16 0 = t' at *
  clear h
  go_enter Tryd.func18, Tryd.ntmps18
  go_wp2_with fail
  with_reducible refine hc.mono ?_
  rintro e w1 ⟨rfl, f1⟩
  have hs' := hs _ f1
  clear hs
  go_wp2_with fail
  with_reducible refine hs'.mono ?_
  rintro e w2 ⟨rfl, h2, f2⟩
  go_wp2_with fail
  go_ret
  exact ⟨rfl, h2, f1.nil.trans f2⟩
theorem tick_any {w : World} {q : MH} {t : TM} (h : IsT w q t) (n : Nat) :
    Calls Tryd.prog 20 #[.pointer (some ⟨q.m, 0, none⟩), .int .u64 n] w fun e w' => e = .returned (.int .u64 (csum (t.rt 16) n 4611686018427387904)) ∧ IsT w' q (t.setRt 16 (csum (t.rt 16) n 4611686018427387904)) ∧ Fr q.blocks w w' := by
  have hn := now_any h
  have hs : ∀ W, Calls Tryd.prog 46 #[.int .u64 (t.rt 16), .int .u64 n, .int .u64 4611686018427387904] W fun e w' => e = .returned (.int .u64 (csum (t.rt 16) n 4611686018427387904)) ∧ Fr [] W w' := fun W => sum_any W _ n 4611686018427387904 (by omega)
  have hle := csum_le (t.rt 16) n 4611686018427387904
  have hsr : ∀ W, IsT W q t → _ := fun W hT => tsetroot hT 16 (by omega) (csum (t.rt 16) n 4611686018427387904) (Nat.lt_of_le_of_lt hle (by decide)) 16 rfl _ rfl
  have hnr : ∀ W, IsT W q (t.setRt 16 (csum (t.rt 16) n 4611686018427387904)) → Calls Tryd.prog 21 #[.pointer (some ⟨q.m, 0, none⟩)] W fun e w' => e = .returned (.int .u64 (csum (t.rt 16) n 4611686018427387904)) ∧ IsT w' q (t.setRt 16 (csum (t.rt 16) n 4611686018427387904)) ∧ Fr q.blocks W w' := fun W hT => by
    have := now_any hT
    rw [show (t.setRt 16 (csum (t.rt 16) n 4611686018427387904)).rt 16 = csum (t.rt 16) n 4611686018427387904 from (TM.setRt_rt _ _ _ _).trans (if_pos rfl)] at this
    exact this
  generalize t.setRt 16 (csum (t.rt 16) n 4611686018427387904) = t' at *
  generalize csum (t.rt 16) n 4611686018427387904 = c at *
  generalize t.rt 16 = v at *
  clear h hle
  go_enter Tryd.func20, Tryd.ntmps20
  go_wp2_with fail
  with_reducible refine hn.mono ?_
  rintro e w1 ⟨rfl, h1, f1⟩
  go_wp2_with fail
  with_reducible refine (hs _).mono ?_
  rintro e w2 ⟨rfl, f2⟩
  have h2 := h1.fr0 f2
  clear h1
  go_wp2_with fail
  with_reducible refine (hsr _ h2).mono ?_
  rintro e w3 ⟨rfl, h3, f3⟩
  clear h2
  go_wp2_with fail
  with_reducible refine (hnr _ h3).mono ?_
  rintro e w4 ⟨rfl, h4, f4⟩
  go_wp2_with fail
  go_ret
  exact ⟨rfl, h4, ((f1.trans f2.nil).trans f3).trans f4⟩
end Go.Proofs.YtcagljjbiodcoaaDoor
