/- The walk of WatchNil. -/
import Derived.Test.YtgkpbmgbaonbhaaLaw11b
import Derived.Deep.RegionHeld3
namespace Go.Proofs.Ytgkpbmgbaonbhaa
open Go.RowKit
set_option linter.unusedVariables false

/-- No watch, or one that nobody made. -/
def NoW (w : World) (a : Option Addr) : Prop := a = none ∨ ∃ p, a = some ⟨p, 0, none⟩ ∧ Blk w p 51 #[.slice none 0 0, .int .i64 0, .int .i64 0]
theorem NoW.fr {w w' : World} {a : Option Addr} (h : NoW w a) (f : Fr [] w w') : NoW w' a := h.imp id fun ⟨p, e, b⟩ => ⟨p, e, b.fr f (by simp)⟩

theorem none_any (w : World) (a : Option Addr) (h : NoW w a) : Calls Try.prog 25 #[.pointer a] w fun e w' => e = .returned (.bool true) ∧ w = w' := by
  rcases h with rfl | ⟨p, rfl, hb⟩
  · exact none_nil w
  · exact none_zero w p (hb.cell 0)

set_option maxHeartbeats 400000 in
theorem mark_nil (w : World) (a : Option Addr) (x y k : Int) (h : NoW w a) :
    Calls Try.prog 17 #[.pointer a, .int .i64 x, .int .i64 y, .int .i64 k] w fun e w' => e = .returned (.int .i64 1) ∧ w = w' := by
  have hn := none_any w a h
  clear h
  go_enter Try.func17, Try.ntmps17
  go_wp2_with (go_at_call 25; refine hn.mono ?_; rintro e w' ⟨rfl, rfl⟩)
  go_ret
  exact ⟨rfl, rfl⟩
set_option maxHeartbeats 400000 in
theorem kind_nil (w : World) (a : Option Addr) (x y : Int) (h : NoW w a) :
    Calls Try.prog 13 #[.pointer a, .int .i64 x, .int .i64 y] w fun e w' => e = .returned (.int .i64 0) ∧ w = w' := by
  have hn := none_any w a h
  clear h
  go_enter Try.func13, Try.ntmps13
  go_wp2
  go_step3
  go_wp2_with (go_at_call 25; refine hn.mono ?_; rintro e w' ⟨rfl, rfl⟩)
  rw [Exit.noGoto_ret]
  go_ret
  exact ⟨rfl, rfl⟩
set_option maxHeartbeats 400000 in
theorem look_nil (w : World) (a : Option Addr) (x y k : Int) (h : NoW w a) :
    Calls Try.prog 11 #[.pointer a, .int .i64 x, .int .i64 y, .int .i64 k] w fun e w' => e = .returned (.bool false) ∧ w = w' := by
  have hn := none_any w a h
  clear h
  go_enter Try.func11, Try.ntmps11
  go_wp2_with (go_at_call 25; refine hn.mono ?_; rintro e w' ⟨rfl, rfl⟩)
  go_ret
  exact ⟨rfl, rfl⟩
set_option maxHeartbeats 400000 in
theorem looks_nil (w : World) (a : Option Addr) (h : NoW w a) :
    Calls Try.prog 19 #[.pointer a] w fun e w' => e = .returned (.int .i64 0) ∧ w = w' := by
  have hn := none_any w a h
  clear h
  go_enter Try.func19, Try.ntmps19
  go_wp2_with (go_at_call 25; refine hn.mono ?_; rintro e w' ⟨rfl, rfl⟩)
  go_ret
  exact ⟨rfl, rfl⟩
set_option maxHeartbeats 400000 in
theorem faults_nil (w : World) (a : Option Addr) (h : NoW w a) :
    Calls Try.prog 20 #[.pointer a] w fun e w' => e = .returned (.int .i64 0) ∧ w = w' := by
  have hn := none_any w a h
  clear h
  go_enter Try.func20, Try.ntmps20
  go_wp2_with (go_at_call 25; refine hn.mono ?_; rintro e w' ⟨rfl, rfl⟩)
  go_ret
  exact ⟨rfl, rfl⟩
set_option maxHeartbeats 400000 in
theorem sum_nil (w : World) (a : Option Addr) (k : Int) (h : NoW w a) :
    Calls Try.prog 15 #[.pointer a, .int .i64 k] w fun e w' => e = .returned (.int .i64 0) ∧ Fr [] w w' := by
  have hn := none_any (w.alloc (.cells #[.int .i64 k] 3)) a (h.fr ((Fr.refl _ _).alloc _))
  clear h
  go_enter Try.func15, Try.ntmps15
  go_wp2_with (go_at_call 25; refine hn.mono ?_; rintro e w' ⟨rfl, rfl⟩)
  go_ret
  exact ⟨rfl, (Fr.refl _ _).alloc _⟩
set_option maxHeartbeats 400000 in
theorem runs_nil (w : World) (a : Option Addr) (h : NoW w a) :
    Calls Try.prog 22 #[.pointer a] w fun e w' => e = .returned (.slice none 0 0) ∧ w = w' := by
  have hn := none_any w a h
  clear h
  go_enter Try.func22, Try.ntmps22
  go_wp2_with (go_at_call 25; refine hn.mono ?_; rintro e w' ⟨rfl, rfl⟩)
  go_ret
  exact ⟨rfl, rfl⟩

def NilRel (B : World) (yk yx yn yo : Int) (u v : Value) (wr : World) : Prop :=
  ∃ (t : Nat) (a : Option Addr), t ≤ 2 ∧ v = .int .i64 t ∧ u = .pointer a ∧ NoW wr a ∧ Blk wr B.heap.size 29 #[.int .i64 yk, .int .i64 yx, .int .i64 yn, .int .i64 yo] ∧ Below B.heap.size B wr

set_option maxRecDepth 100000 in
set_option maxHeartbeats 4000000 in
theorem walk_nil (w : World) (yk yx yn yo : Int) :
    Calls Try.prog 7 #[.agg #[.int .i64 yk, .int .i64 yx, .int .i64 yn, .int .i64 yo]] w fun e w' => e = .returned (.bool true) ∧ Below w.heap.size w w' := by
  go_enter Try.func7, Try.ntmps7
  go_wp2_with fail
  go_loopw [3, 4] (fun u v wr => NilRel w yk yx yn yo u v wr) (fun _ v _ => 2 - (intOf v).toNat)
  case atStart => exact ⟨0, none, by omega, rfl, rfl, .inl rfl, Blk.new _ _ _, (Below.refl _ w).alloc (Nat.le_refl _) _⟩
  case round =>
    obtain ⟨t, a, ht, rfl, rfl, hN, hY, hB⟩ := hrel
    by_cases hlt : t < 2
    · have hY1 := hY.cell
      have hNd : NoW wr.drew a := hN
      go_wp2_with fail
      go_region_held3 (fun w' => ∀ i, w'.cell? ⟨w.heap.size, i, none⟩ = (#[.int .i64 yk, .int .i64 yx, .int .i64 yn, .int .i64 yo] : Array Value)[i]?) (exact hY1)
        (first
          | (go_at_call 17; refine (mark_nil _ a yx yn yo hNd).mono ?_; rintro e w' ⟨rfl, rfl⟩)
          | (go_at_call 13; refine (kind_nil _ a yx yn hNd).mono ?_; rintro e w' ⟨rfl, rfl⟩)
          | (go_at_call 11; refine (look_nil _ a yx yn yo hNd).mono ?_; rintro e w' ⟨rfl, rfl⟩)
          | (go_at_call 19; refine (looks_nil _ a hNd).mono ?_; rintro e w' ⟨rfl, rfl⟩)
          | (go_at_call 20; refine (faults_nil _ a hNd).mono ?_; rintro e w' ⟨rfl, rfl⟩)
          | (go_at_call 15; refine (sum_nil _ a yo hNd).mono ?_; rintro e W2 ⟨rfl, f2⟩; have hN2 := hNd.fr f2; have hY1 := (hY.fr (frDrew.trans f2) (by simp)).cell)
          | (go_at_call 22; refine (runs_nil _ a hN2).mono ?_; rintro e w' ⟨rfl, rfl⟩))
      have hf : Fr [] wr W2 := frDrew.trans f2
      have hY2 := hY.fr hf (by simp)
      go_wp2
      go_roundw
      case rel => exact ⟨t + 1, _, by omega, by go_num, rfl, .inr ⟨_, rfl, Blk.new _ _ _⟩, hY2.alloc _, (hB.trans (hf.below hB.size (by simp))).alloc (by have := hB.size; have := hf.size; omega) _⟩
      case measure => simp [intOf]; omega
    · have hw := watches_any wr
      go_wp2_with (go_at_call 8; refine hw.mono ?_; rintro e w' ⟨rfl, hB'⟩)
      go_ret
      exact ⟨rfl, hB.trans (hB'.mono hB.size)⟩
end Go.Proofs.Ytgkpbmgbaonbhaa
