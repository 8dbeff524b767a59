/- Equality of heads; bytes as strings. -/
import Derived.Test.YtagnelfnjlfhnaaDoorDec3
import Derived.Laws.StructEq
import Derived.Laws.BytesArg
namespace Go.Proofs.YtagnelfnjlfhnaaDoor
set_option linter.unusedVariables false
open Go.RowKit

def HB.same (x y : HB) : Bool :=
  x.tag == y.tag && (x.cls == y.cls && (x.used == y.used && (x.label == y.label && ((x.name : Int) == y.name && ((x.next : Int) == y.next && ((x.prev : Int) == y.prev && ((x.refs : Int) == y.refs && ((x.expiry : Int) == y.expiry && ((x.typ : Int) == y.typ && (x.size == y.size && ((x.hash : Int) == y.hash)))))))))))
theorem HB.same_iff (x y : HB) : x.same y = true ↔ x = y := by
  obtain ⟨a1, a2, a3, a4, a5, a6, a7, a8, a9, a10, a11, a12⟩ := x
  obtain ⟨b1, b2, b3, b4, b5, b6, b7, b8, b9, b10, b11, b12⟩ := y
  simp only [HB.same, Bool.and_eq_true, beq_iff_eq, HB.mk.injEq, Int.natCast_inj]
theorem eqFields_cons {P : Program} (d : Nat) (xs ys : Array Value) (f : Field) (fs : List Field) (a b : Value) (r : Bool) (w : World) (hn : f.name ≠ "_") (ha : ∀ w, (part f.type xs f.offset).run P w = .ok a w) (hb : ∀ w, (part f.type ys f.offset).run P w = .ok b w)
    (hr : ∀ w, (Op.equalIn d f.type a b).run P w = .ok r w) (s : Bool) (hs : (Op.eqFields d xs ys fs).run P w = .ok s w) : (Op.eqFields d xs ys (f :: fs)).run P w = .ok (r && s) w := by
  rw [Op.eqFields, if_pos hn]
  cases r <;> simp [Sem.run_bind, ha, hb, hr, hs]

theorem part_int (xs : Array Value) (i : Nat) (v : Value) (h : xs[i]? = some v) (w : World) : (part 3 xs i).run Tryd.prog w = .ok v w := by
  simp [part, go_sem, h, run_underlying Tryd.underlying3]
theorem part_uint16 (xs : Array Value) (i : Nat) (v : Value) (h : xs[i]? = some v) (w : World) : (part 24 xs i).run Tryd.prog w = .ok v w := by
  simp [part, go_sem, h, run_underlying Tryd.underlying24]
theorem part_uint32 (xs : Array Value) (i : Nat) (v : Value) (h : xs[i]? = some v) (w : World) : (part 22 xs i).run Tryd.prog w = .ok v w := by
  simp [part, go_sem, h, run_underlying Tryd.underlying22]
theorem part_uint64 (xs : Array Value) (i : Nat) (v : Value) (h : xs[i]? = some v) (w : World) : (part 23 xs i).run Tryd.prog w = .ok v w := by
  simp [part, go_sem, h, run_underlying Tryd.underlying23]
theorem part_bool (xs : Array Value) (i : Nat) (v : Value) (h : xs[i]? = some v) (w : World) : (part 4 xs i).run Tryd.prog w = .ok v w := by
  simp [part, go_sem, h, run_underlying Tryd.underlying4]

set_option maxRecDepth 100000 in
set_option maxHeartbeats 4000000 in
theorem eq_head (x y : HB) (w : World) : (Op.equalIn 10000 26 (.agg x.cells) (.agg y.cells)).run Tryd.prog w = .ok (x.same y) w := by
  rw [show (10000 : Nat) = 9999 + 1 from rfl, run_equalIn_struct w 9999 26 x.cells y.cells (by kernel_rfl) (by kernel_rfl)]
  have hF : (Tryd.prog.fieldsOf 26).toList = [⟨"Tag", 3, 0, false, "", "", 0⟩, ⟨"Class", 3, 1, false, "", "", 8⟩, ⟨"Used", 4, 2, false, "", "", 16⟩, ⟨"Label", 3, 3, false, "", "", 24⟩, ⟨"Name", 22, 4, false, "", "", 32⟩, ⟨"Next", 22, 5, false, "", "", 36⟩, ⟨"Prev", 22, 6, false, "", "", 40⟩, ⟨"Refs", 22, 7, false, "", "", 44⟩, ⟨"Expiry", 23, 8, false, "", "", 48⟩, ⟨"Type", 24, 9, false, "", "", 56⟩, ⟨"Size", 3, 10, false, "", "", 64⟩, ⟨"Hash", 22, 11, false, "", "", 72⟩] := by kernel_rfl
  rw [hF]
  clear hF
  have hi : ∀ (t : TypeId) (k : IntKind) (a b : Int) (w : World), Tryd.prog.underlying t = some (.int k) → (Op.equalIn 9999 t (.int k a) (.int k b)).run Tryd.prog w = .ok (a == b) w := fun t k a b w h => run_equalIn_int _ 9998 t k k a b h
  have hb : ∀ (a b : Bool) (w : World), (Op.equalIn 9999 4 (.bool a) (.bool b)).run Tryd.prog w = .ok (a == b) w := fun a b w => run_equalIn_bool w 9998 4 a b Tryd.underlying4
  unfold HB.same
  refine eqFields_cons _ _ _ _ _ (.int .i64 x.tag) (.int .i64 y.tag) _ _ (of_decide_eq_true (by kernel_rfl)) (part_int _ _ _ rfl) (part_int _ _ _ rfl) (fun w => hi _ _ _ _ w Tryd.underlying3) _ ?_
  refine eqFields_cons _ _ _ _ _ (.int .i64 x.cls) (.int .i64 y.cls) _ _ (of_decide_eq_true (by kernel_rfl)) (part_int _ _ _ rfl) (part_int _ _ _ rfl) (fun w => hi _ _ _ _ w Tryd.underlying3) _ ?_
  refine eqFields_cons _ _ _ _ _ (.bool x.used) (.bool y.used) _ _ (of_decide_eq_true (by kernel_rfl)) (part_bool _ _ _ rfl) (part_bool _ _ _ rfl) (hb _ _) _ ?_
  refine eqFields_cons _ _ _ _ _ (.int .i64 x.label) (.int .i64 y.label) _ _ (of_decide_eq_true (by kernel_rfl)) (part_int _ _ _ rfl) (part_int _ _ _ rfl) (fun w => hi _ _ _ _ w Tryd.underlying3) _ ?_
  refine eqFields_cons _ _ _ _ _ (.int .u32 x.name) (.int .u32 y.name) _ _ (of_decide_eq_true (by kernel_rfl)) (part_uint32 _ _ _ rfl) (part_uint32 _ _ _ rfl) (fun w => hi _ _ _ _ w Tryd.underlying22) _ ?_
  refine eqFields_cons _ _ _ _ _ (.int .u32 x.next) (.int .u32 y.next) _ _ (of_decide_eq_true (by kernel_rfl)) (part_uint32 _ _ _ rfl) (part_uint32 _ _ _ rfl) (fun w => hi _ _ _ _ w Tryd.underlying22) _ ?_
  refine eqFields_cons _ _ _ _ _ (.int .u32 x.prev) (.int .u32 y.prev) _ _ (of_decide_eq_true (by kernel_rfl)) (part_uint32 _ _ _ rfl) (part_uint32 _ _ _ rfl) (fun w => hi _ _ _ _ w Tryd.underlying22) _ ?_
  refine eqFields_cons _ _ _ _ _ (.int .u32 x.refs) (.int .u32 y.refs) _ _ (of_decide_eq_true (by kernel_rfl)) (part_uint32 _ _ _ rfl) (part_uint32 _ _ _ rfl) (fun w => hi _ _ _ _ w Tryd.underlying22) _ ?_
  refine eqFields_cons _ _ _ _ _ (.int .u64 x.expiry) (.int .u64 y.expiry) _ _ (of_decide_eq_true (by kernel_rfl)) (part_uint64 _ _ _ rfl) (part_uint64 _ _ _ rfl) (fun w => hi _ _ _ _ w Tryd.underlying23) _ ?_
  refine eqFields_cons _ _ _ _ _ (.int .u16 x.typ) (.int .u16 y.typ) _ _ (of_decide_eq_true (by kernel_rfl)) (part_uint16 _ _ _ rfl) (part_uint16 _ _ _ rfl) (fun w => hi _ _ _ _ w Tryd.underlying24) _ ?_
  refine eqFields_cons _ _ _ _ _ (.int .i64 x.size) (.int .i64 y.size) _ _ (of_decide_eq_true (by kernel_rfl)) (part_int _ _ _ rfl) (part_int _ _ _ rfl) (fun w => hi _ _ _ _ w Tryd.underlying3) _ ?_
  rw [← Bool.and_true ((x.hash : Int) == y.hash)]
  refine eqFields_cons _ _ _ _ _ (.int .u32 x.hash) (.int .u32 y.hash) _ _ (of_decide_eq_true (by kernel_rfl)) (part_uint32 _ _ _ rfl) (part_uint32 _ _ _ rfl) (fun w => hi _ _ _ _ w Tryd.underlying22) _ ?_
  rfl

/-- Bytes as a string. -/
def strOf (l : List Nat) : ByteArray := ⟨(l.map UInt8.ofNat).toArray⟩
theorem strOf_list (l : List Nat) : (strOf l).toList = l.map UInt8.ofNat := by
  rw [ByteArray.toList_eq]; simp [strOf]
theorem strOf_eq (l m : List Nat) (hl : ∀ b ∈ l, b < 256) (hm : ∀ b ∈ m, b < 256) : ((strOf l).toList == (strOf m).toList) = (l == m) := by
  rw [strOf_list, strOf_list, Bool.eq_iff_iff, beq_iff_eq, beq_iff_eq]
  constructor
  · intro h
    have := congrArg (List.map UInt8.toNat) h
    rw [List.map_map, List.map_map] at this
    rw [List.map_congr_left (g := id) (fun b hb => by simp [Nat.mod_eq_of_lt (hl b hb)]), List.map_congr_left (l := m) (g := id) (fun b hb => by simp [Nat.mod_eq_of_lt (hm b hb)])] at this
    simpa using this
  · rintro rfl; rfl
theorem conv_str (w : World) (a : Option Addr) (c : Nat) (l : List Nat) (h : Byt w a l) :
    (convert 27 9 (.slice a l.length c)).run Tryd.prog w = .ok (.string (strOf l)) w := by
  have e : strOf l = strOfNums (l.map fun k : Nat => (k : Int)) := by
    unfold strOf strOfNums
    rw [List.map_map]
    rfl
  rcases l with _ | ⟨x, l⟩
  · rcases a with _ | ⟨g, o, pp⟩
    · exact run_convert_bytes_nil w _ _ Tryd.underlying27 Tryd.underlying5 _ _ _ Tryd.underlying9
    · show (convert 27 9 (.slice (some ⟨g, o, pp⟩) 0 c)).run Tryd.prog w = _
      rw [run_convert_bytes_string w _ _ 5 _ 0 c Tryd.underlying27 Tryd.underlying5 Tryd.underlying9]
      simp [Conv.bytesToString, loadCells]
      rfl
  · obtain ⟨g, o, rfl, hc, hg⟩ := h.at_ 0 (by simp)
    rw [e]
    refine run_convert_bytes_arg w _ _ Tryd.underlying27 Tryd.underlying5 g o _ c _ (by simp) (fun i hi => ?_) _ Tryd.underlying9
    obtain ⟨g', o', e', hc', _⟩ := h.at_ i hi
    injection e' with e'
    injection e' with e1 e2
    subst e1; subst e2
    rw [hc']
    have : ((x :: l).map fun k : Nat => (k : Int)).getD i 0 = (((x :: l)[i]?.getD 0 : Nat) : Int) := by
      rw [List.getD_eq_getElem?_getD, List.getElem?_map]
      rcases (x :: l)[i]? with _ | y <;> rfl
    rw [this]
end Go.Proofs.YtagnelfnjlfhnaaDoor
