/- Equality of heads; bytes as strings. -/
import Derived.Test.YtcagljjbiodcoaaDoorDec3
import Derived.Laws.StructEq
import Derived.Laws.BytesArg
namespace Go.Proofs.YtcagljjbiodcoaaDoor
set_option linter.unusedVariables false
open Go.RowKit

def HB.same (x y : HB) : Bool :=
  x.tag == y.tag && (x.cls == y.cls && (x.used == y.used && (x.label == y.label && ((x.name : Int) == y.name && ((x.next : Int) == y.next && ((x.prev : Int) == y.prev && ((x.refs : Int) == y.refs && ((x.expiry : Int) == y.expiry && ((x.typ : Int) == y.typ && (x.size == y.size && ((x.hash : Int) == y.hash)))))))))))
theorem HB.same_iff (x y : HB) : x.same y = true ↔ x = y := by
  obtain ⟨a1, a2, a3, a4, a5, a6, a7, a8, a9, a10, a11, a12⟩ := x
  obtain ⟨b1, b2, b3, b4, b5, b6, b7, b8, b9, b10, b11, b12⟩ := y
  simp only [HB.same, Bool.and_eq_true, beq_iff_eq, HB.mk.injEq, Int.natCast_inj]
theorem eqFields_cons {P : Program} (d : Nat) (xs ys : Array Value) (f : Field) (fs : List Field) (a b : Value) (r : Bool) (w : World) (hn : f.name ≠ "_") (ha : ∀ w, (part f.type xs f.offset).run P w = .ok a w) (hb : ∀ w, (part f.type ys f.offset).run P w = .ok b w)
    (hr : ∀ w, (Op.equalIn d f.type a b).run P w = .ok r w) (s : Bool) (hs : (Op.eqFields d xs ys fs).run P w = .ok s w) : (Op.eqFields d xs ys (f :: fs)).run P w = .ok (r && s) w := by
  rw [Op.eqFields, if_pos hn]
  cases r <;> simp [Sem.run_bind, ha, hb, hr, hs]

theorem part_int (xs : Array Value) (i : Nat) (v : Value) (h : xs[i]? = some v) (w : World) : (part 3 xs i).run Tryd.prog w = .ok v w := by
  simp [part, go_sem, h, run_underlying Tryd.underlying3]
theorem part_uint16 (xs : Array Value) (i : Nat) (v : Value) (h : xs[i]? = some v) (w : World) : (part 41 xs i).run Tryd.prog w = .ok v w := by
  simp [part, go_sem, h, run_underlying Tryd.underlying41]
theorem part_uint32 (xs : Array Value) (i : Nat) (v : Value) (h : xs[i]? = some v) (w : World) : (part 40 xs i).run Tryd.prog w = .ok v w := by
  simp [part, go_sem, h, run_underlying Tryd.underlying40]
theorem part_uint64 (xs : Array Value) (i : Nat) (v : Value) (h : xs[i]? = some v) (w : World) : (part 22 xs i).run Tryd.prog w = .ok v w := by
  simp [part, go_sem, h, run_underlying Tryd.underlying22]
theorem part_bool (xs : Array Value) (i : Nat) (v : Value) (h : xs[i]? = some v) (w : World) : (part 4 xs i).run Tryd.prog w = .ok v w := by
  simp [part, go_sem, h, run_underlying Tryd.underlying4]

set_option maxRecDepth 100000 in
set_option maxHeartbeats 4000000 in
theorem eq_head (x y : HB) (w : World) : (Op.equalIn 10000 43 (.agg x.cells) (.agg y.cells)).run Tryd.prog w = .ok (x.same y) w := by
  rw [show (10000 : Nat) = 9999 + 1 from rfl, run_equalIn_struct w 9999 43 x.cells y.cells (by kernel_rfl) (by kernel_rfl)]
  have hF : (Tryd.prog.fieldsOf 43).toList = [⟨"Tag", 3, 0, false, "", "", 0⟩, ⟨"Class", 3, 1, false, "", "", 8⟩, ⟨"Used", 4, 2, false, "", "", 16⟩, ⟨"Label", 3, 3, false, "", "", 24⟩, ⟨"Name", 40, 4, false, "", "", 32⟩, ⟨"Next", 40, 5, false, "", "", 36⟩, ⟨"Prev", 40, 6, false, "", "", 40⟩, ⟨"Refs", 40, 7, false, "", "", 44⟩, ⟨"Expiry", 22, 8, false, "", "", 48⟩, ⟨"Type", 41, 9, false, "", "", 56⟩, ⟨"Size", 3, 10, false, "", "", 64⟩, ⟨"Hash", 40, 11, false, "", "", 72⟩] := by kernel_rfl
  rw [hF]
  clear hF
  have hi : ∀ (t : TypeId) (k : IntKind) (a b : Int) (w : World), Tryd.prog.underlying t = some (.int k) → (Op.equalIn 9999 t (.int k a) (.int k b)).run Tryd.prog w = .ok (a == b) w := fun t k a b w h => run_equalIn_int _ 9998 t k k a b h
  have hb : ∀ (a b : Bool) (w : World), (Op.equalIn 9999 4 (.bool a) (.bool b)).run Tryd.prog w = .ok (a == b) w := fun a b w => run_equalIn_bool w 9998 4 a b Tryd.underlying4
  unfold HB.same
  refine eqFields_cons _ _ _ _ _ (.int .i64 x.tag) (.int .i64 y.tag) _ _ (of_decide_eq_true (by kernel_rfl)) (part_int _ _ _ rfl) (part_int _ _ _ rfl) (fun w => hi _ _ _ _ w Tryd.underlying3) _ ?_
  refine eqFields_cons _ _ _ _ _ (.int .i64 x.cls) (.int .i64 y.cls) _ _ (of_decide_eq_true (by kernel_rfl)) (part_int _ _ _ rfl) (part_int _ _ _ rfl) (fun w => hi _ _ _ _ w Tryd.underlying3) _ ?_
  refine eqFields_cons _ _ _ _ _ (.bool x.used) (.bool y.used) _ _ (of_decide_eq_true (by kernel_rfl)) (part_bool _ _ _ rfl) (part_bool _ _ _ rfl) (hb _ _) _ ?_
  refine eqFields_cons _ _ _ _ _ (.int .i64 x.label) (.int .i64 y.label) _ _ (of_decide_eq_true (by kernel_rfl)) (part_int _ _ _ rfl) (part_int _ _ _ rfl) (fun w => hi _ _ _ _ w Tryd.underlying3) _ ?_
  refine eqFields_cons _ _ _ _ _ (.int .u32 x.name) (.int .u32 y.name) _ _ (of_decide_eq_true (by kernel_rfl)) (part_uint32 _ _ _ rfl) (part_uint32 _ _ _ rfl) (fun w => hi _ _ _ _ w Tryd.underlying40) _ ?_
  refine eqFields_cons _ _ _ _ _ (.int .u32 x.next) (.int .u32 y.next) _ _ (of_decide_eq_true (by kernel_rfl)) (part_uint32 _ _ _ rfl) (part_uint32 _ _ _ rfl) (fun w => hi _ _ _ _ w Tryd.underlying40) _ ?_
  refine eqFields_cons _ _ _ _ _ (.int .u32 x.prev) (.int .u32 y.prev) _ _ (of_decide_eq_true (by kernel_rfl)) (part_uint32 _ _ _ rfl) (part_uint32 _ _ _ rfl) (fun w => hi _ _ _ _ w Tryd.underlying40) _ ?_
  refine eqFields_cons _ _ _ _ _ (.int .u32 x.refs) (.int .u32 y.refs) _ _ (of_decide_eq_true (by kernel_rfl)) (part_uint32 _ _ _ rfl) (part_uint32 _ _ _ rfl) (fun w => hi _ _ _ _ w Tryd.underlying40) _ ?_
  refine eqFields_cons _ _ _ _ _ (.int .u64 x.expiry) (.int .u64 y.expiry) _ _ (of_decide_eq_true (by kernel_rfl)) (part_uint64 _ _ _ rfl) (part_uint64 _ _ _ rfl) (fun w => hi _ _ _ _ w Tryd.underlying22) _ ?_
  refine eqFields_cons _ _ _ _ _ (.int .u16 x.typ) (.int .u16 y.typ) _ _ (of_decide_eq_true (by kernel_rfl)) (part_uint16 _ _ _ rfl) (part_uint16 _ _ _ rfl) (fun w => hi _ _ _ _ w Tryd.underlying41) _ ?_
  refine eqFields_cons _ _ _ _ _ (.int .i64 x.size) (.int .i64 y.size) _ _ (of_decide_eq_true (by kernel_rfl)) (part_int _ _ _ rfl) (part_int _ _ _ rfl) (fun w => hi _ _ _ _ w Tryd.underlying3) _ ?_
  rw [← Bool.and_true ((x.hash : Int) == y.hash)]
  refine eqFields_cons _ _ _ _ _ (.int .u32 x.hash) (.int .u32 y.hash) _ _ (of_decide_eq_true (by kernel_rfl)) (part_uint32 _ _ _ rfl) (part_uint32 _ _ _ rfl) (fun w => hi _ _ _ _ w Tryd.underlying40) _ ?_
  rfl

end Go.Proofs.YtcagljjbiodcoaaDoor
