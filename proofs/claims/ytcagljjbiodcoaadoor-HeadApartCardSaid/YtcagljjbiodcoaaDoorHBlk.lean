/- head.block: the head of fields. -/
import Derived.Test.YtcagljjbiodcoaaDoorNumL
import Derived.Test.YtcagljjbiodcoaaDoorE13
import Derived.StillTailTactics
namespace Go.Proofs.YtcagljjbiodcoaaDoor
set_option linter.unusedVariables false
open Go.RowKit

def HB.ofNums (n : Nat → Nat) : HB := { tag := IntKind.i64.wrap (n 0), cls := IntKind.i64.wrap (n 1), used := n 2 == 1, label := IntKind.i64.wrap (n 3), name := n 4 % 4294967296, next := n 5 % 4294967296, prev := n 6 % 4294967296, refs := n 11 % 4294967296, expiry := n 7, typ := n 8 % 65536, size := IntKind.i64.wrap (n 9), hash := n 10 % 4294967296 }

theorem asint_any (w : World) (n : Int) : Calls Tryd.prog 102 #[.int .u64 n] w fun e w' => e = .returned (.int .i64 (IntKind.i64.wrap n)) ∧ w' = w := by
  go_enter Tryd.func102, Tryd.ntmps102
  go_wp2
  go_ret
  exact ⟨ret_int (IntWalk.i64_left n).symm, rfl⟩
theorem as32_any (w : World) (n : Nat) : Calls Tryd.prog 103 #[.int .u64 n] w fun e w' => e = .returned (.int .u32 ((n % 4294967296 : Nat) : Int)) ∧ w' = w := by
  have hu := u32_mod n
  generalize n % 4294967296 = m at *
  go_enter Tryd.func103, Tryd.ntmps103
  go_wp2
  go_ret
  exact ⟨rfl, rfl⟩
theorem as16_any (w : World) (n : Nat) : Calls Tryd.prog 104 #[.int .u64 n] w fun e w' => e = .returned (.int .u16 ((n % 65536 : Nat) : Int)) ∧ w' = w := by
  have hu := u16_mod n
  generalize n % 65536 = m at *
  go_enter Tryd.func104, Tryd.ntmps104
  go_wp2
  go_ret
  exact ⟨rfl, rfl⟩

set_option maxRecDepth 100000 in
set_option maxHeartbeats 4000000 in
theorem block_in (w : World) (n0 n1 n2 n3 n4 n5 n6 n7 n8 n9 n10 n11 : Nat) :
    Calls Tryd.prog 68 #[.agg #[.int .u64 (n0 : Int), .int .u64 (n1 : Int), .int .u64 (n2 : Int), .int .u64 (n3 : Int), .int .u64 (n4 : Int), .int .u64 (n5 : Int), .int .u64 (n6 : Int), .int .u64 (n7 : Int), .int .u64 (n8 : Int), .int .u64 (n9 : Int), .int .u64 (n10 : Int), .int .u64 (n11 : Int)]] w fun e w' => e = .returned (HB.ofNums fun i => [n0, n1, n2, n3, n4, n5, n6, n7, n8, n9, n10, n11][i]?.getD 0).val ∧ Fr [] w w' := by
  have a0 := fun w => asint_any w n0
  have a1 := fun w => asint_any w n1
  have a3 := fun w => asint_any w n3
  have a9 := fun w => asint_any w n9
  have e4 := fun w => as32_any w n4
  have e5 := fun w => as32_any w n5
  have e6 := fun w => as32_any w n6
  have e10 := fun w => as32_any w n10
  have e11 := fun w => as32_any w n11
  have e8 := fun w => as16_any w n8
  simp only [HB.ofNums, HB.val, HB.cells, List.getElem?_cons_zero, List.getElem?_cons_succ, Option.getD_some]
  generalize n4 % 4294967296 = m4 at *
  generalize n5 % 4294967296 = m5 at *
  generalize n6 % 4294967296 = m6 at *
  generalize n10 % 4294967296 = m10 at *
  generalize n11 % 4294967296 = m11 at *
  generalize n8 % 65536 = m8 at *
  generalize IntKind.i64.wrap (n0 : Int) = s0 at *
  generalize IntKind.i64.wrap (n1 : Int) = s1 at *
  generalize IntKind.i64.wrap (n3 : Int) = s3 at *
  generalize IntKind.i64.wrap (n9 : Int) = s9 at *
  have hb2 : ((n2 : Int) == 1) = (n2 == 1) := by rw [Bool.eq_iff_iff]; simp; omega
  go_enter Tryd.func68, Tryd.ntmps68
  go_wp2_with fail
  generalize hw : (w.alloc (.cells #[.int .u64 (n0 : Int), .int .u64 (n1 : Int), .int .u64 (n2 : Int), .int .u64 (n3 : Int), .int .u64 (n4 : Int), .int .u64 (n5 : Int), .int .u64 (n6 : Int), .int .u64 (n7 : Int), .int .u64 (n8 : Int), .int .u64 (n9 : Int), .int .u64 (n10 : Int), .int .u64 (n11 : Int)] 98)).alloc (.cells #[.int .i64 0, .int .i64 0, .bool false, .int .i64 0, .int .u32 0, .int .u32 0, .int .u32 0, .int .u32 0, .int .u64 0, .int .u16 0, .int .i64 0, .int .u32 0] 43) = w1
  refine wp_region_still_tail 36 (by kernel_rfl) (by kernel_rfl) ?_
  simp only [List.take_succ_cons, List.take_zero, List.drop_succ_cons, List.drop_zero]
  have hb : Blk w1.drew w.heap.size 98 #[.int .u64 (n0 : Int), .int .u64 (n1 : Int), .int .u64 (n2 : Int), .int .u64 (n3 : Int), .int .u64 (n4 : Int), .int .u64 (n5 : Int), .int .u64 (n6 : Int), .int .u64 (n7 : Int), .int .u64 (n8 : Int), .int .u64 (n9 : Int), .int .u64 (n10 : Int), .int .u64 (n11 : Int)] := by rw [← hw]; exact ((Blk.new w _ _).alloc _).drew
  have hn : Blk w1.drew (w.heap.size + 1) 43 #[.int .i64 0, .int .i64 0, .bool false, .int .i64 0, .int .u32 0, .int .u32 0, .int .u32 0, .int .u32 0, .int .u64 0, .int .u16 0, .int .i64 0, .int .u32 0] := by rw [← hw, show w.heap.size + 1 = (w.alloc (.cells #[.int .u64 (n0 : Int), .int .u64 (n1 : Int), .int .u64 (n2 : Int), .int .u64 (n3 : Int), .int .u64 (n4 : Int), .int .u64 (n5 : Int), .int .u64 (n6 : Int), .int .u64 (n7 : Int), .int .u64 (n8 : Int), .int .u64 (n9 : Int), .int .u64 (n10 : Int), .int .u64 (n11 : Int)] 98)).heap.size by simp]; exact (Blk.new _ _ _).drew
  have hf : Fr [] w w1.drew := by rw [← hw]; exact (((Fr.refl _ _).alloc _).alloc _).drew
  clear hw
  change wpStill _ _ w1.drew (fun a' => wpList _ _ _ _ a' w1.drew) _ _
  generalize w1.drew = w2 at hb hn hf ⊢
  have c0 := hb.cell 0
  have c1 := hb.cell 1
  have c2 := hb.cell 2
  have c3 := hb.cell 3
  have c4 := hb.cell 4
  have c5 := hb.cell 5
  have c6 := hb.cell 6
  have c7 := hb.cell 7
  have c8 := hb.cell 8
  have c9 := hb.cell 9
  have c10 := hb.cell 10
  have c11 := hb.cell 11
  have d0 := hn.cell 0
  have d1 := hn.cell 1
  have d2 := hn.cell 2
  have d3 := hn.cell 3
  have d4 := hn.cell 4
  have d5 := hn.cell 5
  have d6 := hn.cell 6
  have d7 := hn.cell 7
  have d8 := hn.cell 8
  have d9 := hn.cell 9
  have d10 := hn.cell 10
  have d11 := hn.cell 11
  have z0 := hn.frozen 0
  have z1 := hn.frozen 1
  have z2 := hn.frozen 2
  have z3 := hn.frozen 3
  have z4 := hn.frozen 4
  have z5 := hn.frozen 5
  have z6 := hn.frozen 6
  have z7 := hn.frozen 7
  have z8 := hn.frozen 8
  have z9 := hn.frozen 9
  have z10 := hn.frozen 10
  have z11 := hn.frozen 11
  simp at c0 c1 c2 c3 c4 c5 c6 c7 c8 c9 c10 c11
  simp at d0 d1 d2 d3 d4 d5 d6 d7 d8 d9 d10 d11
  repeat still_step
  still_call (a0 _)
  repeat still_step
  still_call (a1 _)
  repeat still_step
  still_call (a3 _)
  repeat still_step
  still_call (e4 _)
  repeat still_step
  still_call (e5 _)
  repeat still_step
  still_call (e6 _)
  repeat still_step
  still_call (e8 _)
  repeat still_step
  still_call (a9 _)
  repeat still_step
  still_call (e10 _)
  repeat still_step
  still_call (e11 _)
  repeat still_step
  refine wpStill_nil ?_
  go_wp2_with fail
  have hn3 := ((((((((((((hn.set 0 (.int .i64 s0)).set 1 (.int .i64 s1)).set 2 (.bool (n2 == 1))).set 3 (.int .i64 s3)).set 4 (.int .u32 m4)).set 5 (.int .u32 m5)).set 6 (.int .u32 m6)).set 7 (.int .u32 m11)).set 8 (.int .u64 n7)).set 9 (.int .u16 m8)).set 10 (.int .i64 s9)).set 11 (.int .u32 m10))
  have hf3 := ((((((((((((hf.setCell (p := ⟨w.heap.size + 1, 0, none⟩) (.inr (by simp)) (.int .i64 s0)).setCell (p := ⟨w.heap.size + 1, 1, none⟩) (.inr (by simp)) (.int .i64 s1)).setCell (p := ⟨w.heap.size + 1, 2, none⟩) (.inr (by simp)) (.bool (n2 == 1))).setCell (p := ⟨w.heap.size + 1, 3, none⟩) (.inr (by simp)) (.int .i64 s3)).setCell (p := ⟨w.heap.size + 1, 4, none⟩) (.inr (by simp)) (.int .u32 m4)).setCell (p := ⟨w.heap.size + 1, 5, none⟩) (.inr (by simp)) (.int .u32 m5)).setCell (p := ⟨w.heap.size + 1, 6, none⟩) (.inr (by simp)) (.int .u32 m6)).setCell (p := ⟨w.heap.size + 1, 7, none⟩) (.inr (by simp)) (.int .u32 m11)).setCell (p := ⟨w.heap.size + 1, 8, none⟩) (.inr (by simp)) (.int .u64 n7)).setCell (p := ⟨w.heap.size + 1, 9, none⟩) (.inr (by simp)) (.int .u16 m8)).setCell (p := ⟨w.heap.size + 1, 10, none⟩) (.inr (by simp)) (.int .i64 s9)).setCell (p := ⟨w.heap.size + 1, 11, none⟩) (.inr (by simp)) (.int .u32 m10))
  generalize ((((((((((((w2.setCell ⟨w.heap.size + 1, 0, none⟩ (.int .i64 s0)).setCell ⟨w.heap.size + 1, 1, none⟩ (.int .i64 s1)).setCell ⟨w.heap.size + 1, 2, none⟩ (.bool (n2 == 1))).setCell ⟨w.heap.size + 1, 3, none⟩ (.int .i64 s3)).setCell ⟨w.heap.size + 1, 4, none⟩ (.int .u32 m4)).setCell ⟨w.heap.size + 1, 5, none⟩ (.int .u32 m5)).setCell ⟨w.heap.size + 1, 6, none⟩ (.int .u32 m6)).setCell ⟨w.heap.size + 1, 7, none⟩ (.int .u32 m11)).setCell ⟨w.heap.size + 1, 8, none⟩ (.int .u64 n7)).setCell ⟨w.heap.size + 1, 9, none⟩ (.int .u16 m8)).setCell ⟨w.heap.size + 1, 10, none⟩ (.int .i64 s9)).setCell ⟨w.heap.size + 1, 11, none⟩ (.int .u32 m10)) = w3 at hn3 hf3 ⊢
  have q0 := hn3.cell 0
  have q1 := hn3.cell 1
  have q2 := hn3.cell 2
  have q3 := hn3.cell 3
  have q4 := hn3.cell 4
  have q5 := hn3.cell 5
  have q6 := hn3.cell 6
  have q7 := hn3.cell 7
  have q8 := hn3.cell 8
  have q9 := hn3.cell 9
  have q10 := hn3.cell 10
  have q11 := hn3.cell 11
  simp at q0 q1 q2 q3 q4 q5 q6 q7 q8 q9 q10 q11
  refine bodyPost_ret (by simp [results, Tryd.results68, go_sem, q0, q1, q2, q3, q4, q5, q6, q7, q8, q9, q10, q11]; try rfl) rfl ?_
  exact ⟨rfl, hf3⟩
end Go.Proofs.YtcagljjbiodcoaaDoor
