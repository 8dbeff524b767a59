/- Heads as values: their fields as numbers. -/
import Derived.Test.YtcagljjbiodcoaaDoorH13b
import Derived.Test.YtcagljjbiodcoaaDoorPut
import Derived.Deep.RegionHeld3
import Derived.StillTailTactics
namespace Go.Proofs.YtcagljjbiodcoaaDoor
set_option linter.unusedVariables false
open Go.RowKit

structure HB where
  tag : Int
  cls : Int
  used : Bool
  label : Int
  name : Nat
  next : Nat
  prev : Nat
  refs : Nat
  expiry : Nat
  typ : Nat
  size : Int
  hash : Nat
structure HB.Ok (x : HB) : Prop where
  tag : -9223372036854775808 ≤ x.tag ∧ x.tag ≤ 9223372036854775807
  cls : -9223372036854775808 ≤ x.cls ∧ x.cls ≤ 9223372036854775807
  label : -9223372036854775808 ≤ x.label ∧ x.label ≤ 9223372036854775807
  name : x.name < 4294967296
  next : x.next < 4294967296
  prev : x.prev < 4294967296
  refs : x.refs < 4294967296
  expiry : x.expiry < 18446744073709551616
  typ : x.typ < 65536
  size : -9223372036854775808 ≤ x.size ∧ x.size ≤ 9223372036854775807
  hash : x.hash < 4294967296
def HB.cells (x : HB) : Array Value := #[.int .i64 x.tag, .int .i64 x.cls, .bool x.used, .int .i64 x.label, .int .u32 x.name, .int .u32 x.next, .int .u32 x.prev, .int .u32 x.refs, .int .u64 x.expiry, .int .u16 x.typ, .int .i64 x.size, .int .u32 x.hash]
def HB.val (x : HB) : Value := .agg x.cells
def HB.nums (x : HB) : List Nat := [w64 x.tag, w64 x.cls, if x.used then 1 else 0, w64 x.label, x.name, x.next, x.prev, x.expiry, x.typ, w64 x.size, x.hash, x.refs]
def numsV (l : List Nat) : Value := .agg ((l.map fun n : Nat => Value.int .u64 (n : Int)).toArray)

theorem Blk.same {w : World} {g : Nat} {t : TypeId} {cs : Array Value} (h : Blk w g t cs) (i : Nat) (hi : i < cs.size) (u : Value) : (w.setCell ⟨g, i, none⟩ u).cell? ⟨g, i, none⟩ = some u := by
  rw [(h.set i u).cell i, Array.getElem?_setIfInBounds_self_of_lt hi]

theorem one_any (w : World) (b : Bool) : Calls Tryd.prog 99 #[.bool b] w fun e w' => e = .returned (.int .u64 ((if b then 1 else 0 : Nat) : Int)) ∧ w' = w := by
  cases b
  · go_enter Tryd.func99, Tryd.ntmps99
    go_wp2
    go_returns
    exact ⟨rfl, rfl⟩
  · go_enter Tryd.func99, Tryd.ntmps99
    go_wp2
    go_returns
    exact ⟨rfl, rfl⟩

set_option maxRecDepth 100000 in
set_option maxHeartbeats 4000000 in
theorem numbers_any (w : World) (x : HB) (hx : x.Ok) : Calls Tryd.prog 58 #[x.val] w fun e w' => e = .returned (numsV x.nums) ∧ Fr [] w w' := by
  obtain ⟨tag, cls, used, label, name, next, prev, refs, expiry, typ, size, hash⟩ := x
  obtain ⟨h1, h2, h3, h4, h5, h6, h7, h8, h9, h10, h11⟩ := hx
  simp only at h1 h2 h3 h4 h5 h6 h7 h8 h9 h10 h11
  have e1 := u64_w64 tag
  have e2 := u64_w64 cls
  have e3 := u64_w64 label
  have e4 := u64_w64 size
  have ho := fun w => one_any w used
  have m0 := u64_nat name (by omega)
  have m1 := u64_nat next (by omega)
  have m2 := u64_nat prev (by omega)
  have m3 := u64_nat typ (by omega)
  have m4 := u64_nat hash (by omega)
  have m5 := u64_nat refs (by omega)
  simp only [HB.val, HB.cells, numsV, HB.nums, List.map_cons, List.map_nil]
  generalize (if used then 1 else 0 : Nat) = u at *
  generalize w64 tag = t at *
  generalize w64 cls = c at *
  generalize w64 label = l at *
  generalize w64 size = s at *
  go_enter Tryd.func58, Tryd.ntmps58
  go_wp2_with fail
  generalize hw : (w.alloc (.cells #[.int .i64 tag, .int .i64 cls, .bool used, .int .i64 label, .int .u32 name, .int .u32 next, .int .u32 prev, .int .u32 refs, .int .u64 expiry, .int .u16 typ, .int .i64 size, .int .u32 hash] 43)).alloc (.cells #[.int .u64 0, .int .u64 0, .int .u64 0, .int .u64 0, .int .u64 0, .int .u64 0, .int .u64 0, .int .u64 0, .int .u64 0, .int .u64 0, .int .u64 0, .int .u64 0] 98) = w1
  refine wp_region_still_tail 36 (by kernel_rfl) (by kernel_rfl) ?_
  simp only [List.take_succ_cons, List.take_zero, List.drop_succ_cons, List.drop_zero]
  have hb : Blk w1.drew w.heap.size 43 #[.int .i64 tag, .int .i64 cls, .bool used, .int .i64 label, .int .u32 name, .int .u32 next, .int .u32 prev, .int .u32 refs, .int .u64 expiry, .int .u16 typ, .int .i64 size, .int .u32 hash] := by rw [← hw]; exact ((Blk.new w _ _).alloc _).drew
  have hn : Blk w1.drew (w.heap.size + 1) 98 #[.int .u64 0, .int .u64 0, .int .u64 0, .int .u64 0, .int .u64 0, .int .u64 0, .int .u64 0, .int .u64 0, .int .u64 0, .int .u64 0, .int .u64 0, .int .u64 0] := by rw [← hw, show w.heap.size + 1 = (w.alloc (.cells #[.int .i64 tag, .int .i64 cls, .bool used, .int .i64 label, .int .u32 name, .int .u32 next, .int .u32 prev, .int .u32 refs, .int .u64 expiry, .int .u16 typ, .int .i64 size, .int .u32 hash] 43)).heap.size by simp]; exact (Blk.new _ _ _).drew
  have hf : Fr [] w w1.drew := by rw [← hw]; exact (((Fr.refl _ _).alloc _).alloc _).drew
  clear hw
  change wpStill _ _ w1.drew (fun a' => wpList _ _ _ _ a' w1.drew) _ _
  generalize w1.drew = w2 at hb hn hf ⊢
  have c0 := hb.cell 0
  have c1 := hb.cell 1
  have c2 := hb.cell 2
  have c3 := hb.cell 3
  have c4 := hb.cell 4
  have c5 := hb.cell 5
  have c6 := hb.cell 6
  have c7 := hb.cell 7
  have c8 := hb.cell 8
  have c9 := hb.cell 9
  have c10 := hb.cell 10
  have c11 := hb.cell 11
  have d0 := hn.cell 0
  have d1 := hn.cell 1
  have d2 := hn.cell 2
  have d3 := hn.cell 3
  have d4 := hn.cell 4
  have d5 := hn.cell 5
  have d6 := hn.cell 6
  have d7 := hn.cell 7
  have d8 := hn.cell 8
  have d9 := hn.cell 9
  have d10 := hn.cell 10
  have d11 := hn.cell 11
  have z0 := hn.frozen 0
  have z1 := hn.frozen 1
  have z2 := hn.frozen 2
  have z3 := hn.frozen 3
  have z4 := hn.frozen 4
  have z5 := hn.frozen 5
  have z6 := hn.frozen 6
  have z7 := hn.frozen 7
  have z8 := hn.frozen 8
  have z9 := hn.frozen 9
  have z10 := hn.frozen 10
  have z11 := hn.frozen 11
  simp at c0 c1 c2 c3 c4 c5 c6 c7 c8 c9 c10 c11
  simp at d0 d1 d2 d3 d4 d5 d6 d7 d8 d9 d10 d11
  repeat still_step
  still_call (ho _)
  repeat still_step
  refine wpStill_nil ?_
  go_wp2_with fail
  have hn3 := ((((((((((((hn.set 0 (.int .u64 (t : Int))).set 1 (.int .u64 (c : Int))).set 2 (.int .u64 (u : Int))).set 3 (.int .u64 (l : Int))).set 4 (.int .u64 (name : Int))).set 5 (.int .u64 (next : Int))).set 6 (.int .u64 (prev : Int))).set 7 (.int .u64 (expiry : Int))).set 8 (.int .u64 (typ : Int))).set 9 (.int .u64 (s : Int))).set 10 (.int .u64 (hash : Int))).set 11 (.int .u64 (refs : Int)))
  have hf3 := ((((((((((((hf.setCell (p := ⟨w.heap.size + 1, 0, none⟩) (.inr (by simp)) (.int .u64 (t : Int))).setCell (p := ⟨w.heap.size + 1, 1, none⟩) (.inr (by simp)) (.int .u64 (c : Int))).setCell (p := ⟨w.heap.size + 1, 2, none⟩) (.inr (by simp)) (.int .u64 (u : Int))).setCell (p := ⟨w.heap.size + 1, 3, none⟩) (.inr (by simp)) (.int .u64 (l : Int))).setCell (p := ⟨w.heap.size + 1, 4, none⟩) (.inr (by simp)) (.int .u64 (name : Int))).setCell (p := ⟨w.heap.size + 1, 5, none⟩) (.inr (by simp)) (.int .u64 (next : Int))).setCell (p := ⟨w.heap.size + 1, 6, none⟩) (.inr (by simp)) (.int .u64 (prev : Int))).setCell (p := ⟨w.heap.size + 1, 7, none⟩) (.inr (by simp)) (.int .u64 (expiry : Int))).setCell (p := ⟨w.heap.size + 1, 8, none⟩) (.inr (by simp)) (.int .u64 (typ : Int))).setCell (p := ⟨w.heap.size + 1, 9, none⟩) (.inr (by simp)) (.int .u64 (s : Int))).setCell (p := ⟨w.heap.size + 1, 10, none⟩) (.inr (by simp)) (.int .u64 (hash : Int))).setCell (p := ⟨w.heap.size + 1, 11, none⟩) (.inr (by simp)) (.int .u64 (refs : Int)))
  generalize ((((((((((((w2.setCell ⟨w.heap.size + 1, 0, none⟩ (.int .u64 (t : Int))).setCell ⟨w.heap.size + 1, 1, none⟩ (.int .u64 (c : Int))).setCell ⟨w.heap.size + 1, 2, none⟩ (.int .u64 (u : Int))).setCell ⟨w.heap.size + 1, 3, none⟩ (.int .u64 (l : Int))).setCell ⟨w.heap.size + 1, 4, none⟩ (.int .u64 (name : Int))).setCell ⟨w.heap.size + 1, 5, none⟩ (.int .u64 (next : Int))).setCell ⟨w.heap.size + 1, 6, none⟩ (.int .u64 (prev : Int))).setCell ⟨w.heap.size + 1, 7, none⟩ (.int .u64 (expiry : Int))).setCell ⟨w.heap.size + 1, 8, none⟩ (.int .u64 (typ : Int))).setCell ⟨w.heap.size + 1, 9, none⟩ (.int .u64 (s : Int))).setCell ⟨w.heap.size + 1, 10, none⟩ (.int .u64 (hash : Int))).setCell ⟨w.heap.size + 1, 11, none⟩ (.int .u64 (refs : Int))) = w3 at hn3 hf3 ⊢
  have q0 := hn3.cell 0
  have q1 := hn3.cell 1
  have q2 := hn3.cell 2
  have q3 := hn3.cell 3
  have q4 := hn3.cell 4
  have q5 := hn3.cell 5
  have q6 := hn3.cell 6
  have q7 := hn3.cell 7
  have q8 := hn3.cell 8
  have q9 := hn3.cell 9
  have q10 := hn3.cell 10
  have q11 := hn3.cell 11
  simp at q0 q1 q2 q3 q4 q5 q6 q7 q8 q9 q10 q11
  refine bodyPost_ret (by simp [results, Tryd.results58, go_sem, q0, q1, q2, q3, q4, q5, q6, q7, q8, q9, q10, q11]; try rfl) rfl ?_
  exact ⟨rfl, hf3⟩
end Go.Proofs.YtcagljjbiodcoaaDoor
