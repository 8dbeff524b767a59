/- lacks. -/
import Derived.Test.YtcagljjbiodcoaaDoorH13d
import Derived.Laws.PanicsMore
import Derived.ChangeKeysEq
import Derived.Laws.StructEq
namespace Go.Proofs.YtcagljjbiodcoaaDoor
set_option linter.unusedVariables false
open Go.RowKit

/-- A field that the block doesn't have is not nought. -/
def HB.lackAt (x : HB) (f : Nat) : Bool := x.num f != 0 && (whZ x.tag f).2 == 0
def HB.lackTo (x : HB) : Nat → Bool
  | 0 => false
  | k + 1 => x.lackTo k || x.lackAt k
theorem wh_zero (tag f : Int) (h : (whZ tag f).2 = 0) : whZ tag f = (0, 0) := by
  unfold whZ at h ⊢
  split at h
  · rename_i hb
    rw [if_pos hb]
    generalize tag.toNat = t at *
    generalize f.toNat = k at *
    unfold wh at h ⊢
    split at h
    · rename_i h5
      exfalso
      revert h
      rcases k with _ | _ | _ | _ | _ | k <;> first | (simp [commonL]; done) | omega
    · rename_i h5
      rw [if_neg h5]
      split at h
      · rename_i h1
        rw [if_pos h1]
        by_cases hk : k - 5 < 6
        · exfalso
          revert h hk
          generalize k - 5 = j
          rcases j with _ | _ | _ | _ | _ | _ | j <;> simp [ownL] <;> omega
        · have : ownL[k - 5]? = none := List.getElem?_eq_none (by simp [ownL]; omega)
          rw [this]; rfl
      · rename_i h1
        rw [if_neg h1]
        split at h
        · simp at h
        · rename_i h2
          rw [if_neg h2]
          split at h
          · simp at h
          · rename_i h3
            rw [if_neg h3]
  · rename_i hb
    rw [if_neg hb]

theorem nums_arr (x : HB) : ∃ arr : Array Value, numsV x.nums = .agg arr ∧ arr.size = 12 ∧ ∀ k, k < 12 → arr[k]? = some (.int .u64 (x.num k)) := by
  refine ⟨_, rfl, rfl, fun k hk => ?_⟩
  rcases k with _ | _ | _ | _ | _ | _ | _ | _ | _ | _ | _ | _ | k <;> first | rfl | omega

theorem run_index_nums (arr : Array Value) (k : Nat) (hk : k < 12) (n : Nat) (h : arr[k]? = some (.int .u64 n)) (w : World) :
    (Instr.index 98 (.agg arr) (.int .i64 k)).run Tryd.prog w = .ok (.int .u64 n) w := by
  have h2 : (0 : Int) ≤ k ∧ (k : Int) < (12 : Nat) := by omega
  have h0 : (0 : Int) ≤ k := by omega
  have h3 : (k : Int) < 12 := by omega
  simp [Instr.index, run_underlying Tryd.underlying98, asIntOf, go_sem, h2, h0, h3, h]
  intro; omega

theorem eq_row (a b c d : Int) (w : World) :
    (Op.equalIn 10000 101 (.agg #[.int .i64 a, .int .i64 b]) (.agg #[.int .i64 c, .int .i64 d])).run Tryd.prog w = .ok (a == c && b == d) w := by
  obtain ⟨ti, hti⟩ : ∃ i, Tryd.prog.info? 3 = some i := Option.isSome_iff_exists.1 (by kernel_rfl)
  rw [show (10000 : Nat) = 9999 + 1 from rfl, run_equalIn_array _ 9999 (e := 3) (n := 2) _ _ (by kernel_rfl) hti, show List.range 2 = [0, 1] from rfl, show Tryd.prog.cellsOf 3 = 1 by kernel_rfl]
  have hp : ∀ (xs : Array Value) (i : Nat) (z : Int) (w : World), xs[i]? = some (.int .i64 z) → (part 3 xs (i * 1)).run Tryd.prog w = .ok (.int .i64 z) w := fun xs i z w h => by
    simp [part, go_sem, h]
  have he : ∀ (x y : Int) (w : World), (Op.equalIn 9999 3 (.int .i64 x) (.int .i64 y)).run Tryd.prog w = .ok (x == y) w := fun x y w => run_equalIn_int _ 9998 3 .i64 .i64 x y (by kernel_rfl)
  have h0 : ∀ (x y : Int) (w : World), (part 3 #[.int .i64 x, .int .i64 y] 0).run Tryd.prog w = .ok (.int .i64 x) w := fun x y w => hp #[.int .i64 x, .int .i64 y] 0 x w rfl
  have h1 : ∀ (x y : Int) (w : World), (part 3 #[.int .i64 x, .int .i64 y] 1).run Tryd.prog w = .ok (.int .i64 y) w := fun x y w => hp #[.int .i64 x, .int .i64 y] 1 y w rfl
  simp only [Op.eqItems, Sem.run_bind, Nat.zero_mul, Nat.one_mul, h0, h1, he, Result.andThen_ok]
  by_cases p : a = c <;> by_cases q : b = d <;> simp [Sem.run_bind, h0, h1, he, p, q]

def LackRel (w : World) (x : HB) (v : Value) (wr : World) : Prop := ∃ k : Nat, k ≤ 12 ∧ v = .int .i64 k ∧ Fr [] w wr ∧ Tabs wr ∧ wr.cell? ⟨w.heap.size, 0, none⟩ = some (.int .i64 x.tag) ∧ x.lackTo k = false ∧ w.heap.size < wr.heap.size

set_option maxRecDepth 100000 in
set_option maxHeartbeats 8000000 in
theorem lacks_any (w : World) (hT : Tabs w) (x : HB) (hx : x.Ok) :
    Calls Tryd.prog 62 #[x.val] w fun e w' => e = .returned (.bool (x.lackTo 12)) ∧ Fr [] w w' := by
  obtain ⟨arr, hA, hs, hg⟩ := nums_arr x
  have hn := fun w => numbers_any w x hx
  rw [hA] at hn
  have hval : x.val = .agg #[.int .i64 x.tag, .int .i64 x.cls, .bool x.used, .int .i64 x.label, .int .u32 x.name, .int .u32 x.next, .int .u32 x.prev, .int .u32 x.refs, .int .u64 x.expiry, .int .u16 x.typ, .int .i64 x.size, .int .u32 x.hash] := rfl
  rw [hval]
  rw [hval] at hn
  have HG := Lib.hid hg
  clear hg hA hval
  go_enter Tryd.func62, Tryd.ntmps62
  go_wp2_with fail
  refine (hn _).mono ?_
  rintro e w1 ⟨rfl, f1⟩
  have hT1 : Tabs w1 := (hT.alloc _).fr f1 (by simp)
  have hF1 : Fr [] w w1 := ((Fr.refl [] w).alloc _).trans f1
  have hc1 : w1.cell? ⟨w.heap.size, 0, none⟩ = some (.int .i64 x.tag) := (f1.cell (p := ⟨w.heap.size, 0, none⟩) (by simp) (by simp)).trans (by simp)
  have hlt1 : w.heap.size < w1.heap.size := Nat.lt_of_lt_of_le (by simp) f1.size
  clear f1 hn
  go_wp2_with fail
  go_loopw [7] (fun v W => LackRel w x v W) (fun v _ => 12 - (intOf v).toNat)
  case atStart => exact ⟨0, by omega, rfl, hF1, hT1, hc1, rfl, hlt1⟩
  case round =>
    clear hF1 hT1 hc1 hlt1
    obtain ⟨k, hk, rfl, hF, hT2, hc, hl, hlt2⟩ := hrel
    by_cases hlt : k < 12
    · have hak := HG.out k hlt
      have hk0 : (0 : Int) ≤ k := by omega
      have hk8 : (k : Int) < 12 := by omega
      have hix := run_index_nums arr k hlt (x.num k) hak
      have hls : x.lackTo (k + 1) = x.lackAt k := by rw [HB.lackTo, hl, Bool.false_or]
      have hz := wh_zero x.tag k
      clear hak hl
      by_cases h0 : x.num k = 0
      · have hb : (((x.num k : Nat) : Int) != 0) = false := by simp [h0]
        have hnl : x.lackTo (k + 1) = false := by rw [hls]; simp [HB.lackAt, h0]
        generalize x.num k = n at *
        clear hz h0
        go_wp2_with fail
        go_quiet (fail)
        go_wp2
        exact ⟨⟨k + 1, by omega, by go_num, hF.drewN _, hT2.fr ((Fr.refl [] wr).drewN _) (by simp), hc, hnl, hlt2⟩, by simp [intOf]; omega⟩
      · have hb : (((x.num k : Nat) : Int) != 0) = true := by simp; omega
        have n0 := hT2.now 0
        have n1 := hT2.now 1
        have hsz := hT2.size
        by_cases hw : (whZ x.tag k).2 = 0
        · have hp : ∀ W, Tabs W → Calls Tryd.prog 59 #[.int .i64 x.tag, .int .i64 k] W fun e w' => e = .returned (.agg #[.int .i64 0, .int .i64 0]) ∧ Fr [] W w' := fun W h => by
            have := place_any W h x.tag k
            rw [hz hw] at this
            exact this
          have hnl : x.lackTo (k + 1) = true := by rw [hls]; simp [HB.lackAt, h0, hw]
          have hend : x.lackTo 12 = true := by
            have : ∀ j, x.lackTo (k + 1 + j) = true := fun j => by
              induction j with
              | zero => exact hnl
              | succ j ih => rw [← Nat.add_assoc, HB.lackTo, ih, Bool.true_or]
            have := this (12 - (k + 1))
            rwa [show k + 1 + (12 - (k + 1)) = 12 by omega] at this
          generalize x.num k = n at *
          have hE : ∀ w, (Op.equalIn 10000 101 (.agg #[.int .i64 0, .int .i64 0]) (.agg #[.int .i64 0, .int .i64 0])).run Tryd.prog w = .ok true w := fun w => eq_row 0 0 0 0 w
          clear hz h0 hls hnl
          go_wp2_with fail
          go_region_held3 (fun w' => w'.cell? ⟨w.heap.size, 0, none⟩ = some (.int .i64 x.tag) ∧ w'.cell? ⟨1, 0, none⟩ = some (.int .i64 0) ∧ w'.cell? ⟨1, 1, none⟩ = some (.int .i64 0)) (exact ⟨hc, n0, n1⟩)
            (first | (go_at_call 59; refine (hp _ (hT2.fr (frDrew (S := [])) (by simp))).mono ?_; rintro e W2 ⟨rfl, f2⟩; have hF2 := hF.trans ((frDrew (S := [])).trans f2); have hT3 := hT2.fr ((frDrew (S := [])).trans f2) (by simp); have hsz3 := f2.size; have hcK := hc; have hc := ((((frDrew (S := [])).trans f2)).cell (p := ⟨w.heap.size, 0, none⟩) hlt2 (by simp)).trans hc; have n0 := hT3.now 0; have n1 := hT3.now 1))
          go_wp2_with fail
          go_returns
          exact ⟨by rw [hend]; rfl, hF2⟩
        · have hp : ∀ W, Tabs W → Calls Tryd.prog 59 #[.int .i64 x.tag, .int .i64 k] W fun e w' => e = .returned (.agg #[.int .i64 (whZ x.tag k).1, .int .i64 (whZ x.tag k).2]) ∧ Fr [] W w' := fun W h => place_any W h x.tag k
          have hnl : x.lackTo (k + 1) = false := by rw [hls]; simp [HB.lackAt, hw]
          generalize x.num k = n at *
          generalize (whZ x.tag k).1 = a at *
          generalize (whZ x.tag k).2 = b at *
          have hbb : ((b : Int) == 0) = false := by simp; omega
          have hE : ∀ w, (Op.equalIn 10000 101 (.agg #[.int .i64 a, .int .i64 b]) (.agg #[.int .i64 0, .int .i64 0])).run Tryd.prog w = .ok false w := fun w => by rw [eq_row, hbb, Bool.and_false]
          clear hz h0 hls
          go_wp2_with fail
          go_region_held3 (fun w' => w'.cell? ⟨w.heap.size, 0, none⟩ = some (.int .i64 x.tag) ∧ w'.cell? ⟨1, 0, none⟩ = some (.int .i64 0) ∧ w'.cell? ⟨1, 1, none⟩ = some (.int .i64 0)) (exact ⟨hc, n0, n1⟩)
            (first | (go_at_call 59; refine (hp _ (hT2.fr (frDrew (S := [])) (by simp))).mono ?_; rintro e W2 ⟨rfl, f2⟩; have hF2 := hF.trans ((frDrew (S := [])).trans f2); have hT3 := hT2.fr ((frDrew (S := [])).trans f2) (by simp); have hsz3 := f2.size; have hcK := hc; have hc := ((((frDrew (S := [])).trans f2)).cell (p := ⟨w.heap.size, 0, none⟩) hlt2 (by simp)).trans hc; have n0 := hT3.now 0; have n1 := hT3.now 1))
          go_wp2
          exact ⟨⟨k + 1, by omega, by go_num, hF2, hT3, hc, hnl, Nat.lt_of_lt_of_le hlt2 (by have := f2.size; simpa using this)⟩, by simp [intOf]; omega⟩
    · have hk12 : k = 12 := by omega
      subst hk12
      go_wp2_with fail
      go_returns
      exact ⟨by rw [hl]; rfl, hF⟩
end Go.Proofs.YtcagljjbiodcoaaDoor
