/- errors.As at *wrong. -/
import Derived.Test.YtgoogihfggndpaaGreatDoorLaidE
import Derived.WalkKit
import Derived.LaidEql
import Derived.Stop.Asserts
import Derived.RowKitTokens
namespace Go.Proofs.YtgoogihfggndpaaGreatDoor
set_option linter.unusedVariables false
set_option linter.unusedSimpArgs false
open Go.RowKit Go.Extern.Stop Go.Stop Go.Extern

noncomputable def gsz : Nat := Tryz.prog.globals.size
theorem wr_valueOfP (t : Addr) (w : World) : (ReflectliteValue.unpack (.iface 227 (.pointer (some t)))).run Tryz.prog w
    = .ok (.agg #[.pointer (some ⟨gsz, 227, none⟩), .pointer (some ⟨w.heap.size, 0, none⟩), .int .u64 150]) (w.alloc (.cells #[.pointer (some t)] 227)) := by kernel_rfl
theorem wr_typeP (a : Addr) (w : World) : (ReflectliteValue.methodAny (ReflectliteValue.valueError "reflectlite.Value.Type" 0) (fun t _ _ _ => ReflectliteType.toType t) #[.agg #[.pointer (some ⟨gsz, 227, none⟩), .pointer (some a), .int .u64 150]]).run Tryz.prog w
    = .ok (.iface 289 (.agg #[.pointer (some ⟨gsz, 227, none⟩)])) w := by kernel_rfl
theorem wr_methodKind (h : Value) (w : World) : (Go.method 269 289 (.agg #[h]) "Kind").run Tryz.prog w = .ok (278, h) w := by kernel_rfl
theorem wr_kindP (w : World) : ((ReflectliteType.abiMethod fun t => (fun a : Nat => Value.int IntKind.u8 (a : Int)) <$> Rtype.kind t) #[.pointer (some ⟨gsz, 227, none⟩)]).run Tryz.prog w = .ok (.int .u8 22) w := by kernel_rfl
theorem wr_kindW (w : World) : ((ReflectliteType.abiMethod fun t => (fun a : Nat => Value.int IntKind.u8 (a : Int)) <$> Rtype.kind t) #[.pointer (some ⟨gsz, 225, none⟩)]).run Tryz.prog w = .ok (.int .u8 25) w := by kernel_rfl
theorem wr_elemP (w : World) : (ReflectliteType.method ReflectliteType.elem #[.agg #[.pointer (some ⟨gsz, 227, none⟩)]]).run Tryz.prog w = .ok (.iface 289 (.agg #[.pointer (some ⟨gsz, 225, none⟩)])) w := by kernel_rfl
theorem wr_implements (w : World) : (ReflectliteType.relation "Implements" ReflectliteType.implements_ #[.agg #[.pointer (some ⟨gsz, 225, none⟩)], .iface 289 (.agg #[.pointer (some ⟨gsz, 149, none⟩)])]).run Tryz.prog w = .ok (.bool true) w := by kernel_rfl
theorem wr_typeOf (v : Value) (w : World) : (ReflectliteType.typeOf #[.iface 225 v]).run Tryz.prog w = .ok (.iface 289 (.agg #[.pointer (some ⟨gsz, 225, none⟩)])) w := by kernel_rfl
theorem wr_assignable (w : World) : (ReflectliteType.relation "AssignableTo" ReflectliteType.assignableTo #[.agg #[.pointer (some ⟨gsz, 225, none⟩)], .iface 289 (.agg #[.pointer (some ⟨gsz, 225, none⟩)])]).run Tryz.prog w = .ok (.bool true) w := by kernel_rfl
theorem wr_valueOfW (x : Int) (w : World) : (ReflectliteValue.unpack (.iface 225 (.agg #[.int .i64 x]))).run Tryz.prog w
    = .ok (.agg #[.pointer (some ⟨gsz, 225, none⟩), .pointer (some ⟨w.heap.size, 0, none⟩), .int .u64 153]) (w.alloc (.cells #[.int .i64 x] 225)) := by kernel_rfl
theorem wr_methodElem (h : Value) (w : World) : (Go.method 269 289 (.agg #[h]) "Elem").run Tryz.prog w = .ok (293, .agg #[h]) w := by kernel_rfl
theorem wr_methodImplements (h : Value) (w : World) : (Go.method 269 289 (.agg #[h]) "Implements").run Tryz.prog w = .ok (294, .agg #[h]) w := by kernel_rfl
theorem wr_methodAssignable (h : Value) (w : World) : (Go.method 269 289 (.agg #[h]) "AssignableTo").run Tryz.prog w = .ok (291, .agg #[h]) w := by kernel_rfl
theorem wr_rlm (z : Sem Value) (f : TypeId → Addr → Nat → Nat → Sem Value) (v : Value) :
    ReflectliteValue.method z f #[v] = (do match ← ReflectliteValue.parts v with | none => z | some (t, a, fl) => f t a fl (fl % 32)) := rfl
theorem wr_partsP (a : Addr) (w : World) : (ReflectliteValue.parts (.agg #[.pointer (some ⟨gsz, 227, none⟩), .pointer (some a), .int .u64 150])).run Tryz.prog w = .ok (some (227, a, 150)) w := by kernel_rfl
theorem wr_isNil (a p : Addr) (W : World) (ha : W.cell? a = some (.pointer (some p))) :
    (ReflectliteValue.method (ReflectliteValue.valueError "reflectlite.Value.IsNil" 0) ReflectliteValue.isNil #[.agg #[.pointer (some ⟨gsz, 227, none⟩), .pointer (some a), .int .u64 150]]).run Tryz.prog W = .ok (.bool false) W := by
  rw [wr_rlm]
  simp only [Sem.run_bind, wr_partsP, Result.andThen]
  simp [ReflectliteValue.isNil, loadVar, isAgg, underlying, Tryz.underlying227, ha, Result.andThen]
theorem wr_elemOf (w : World) : (Rtype.elem? 227).run Tryz.prog w = .ok (some 225) w := by kernel_rfl
theorem wr_mkW (p : Addr) (w : World) : (ReflectliteValue.mk 225 p ReflectliteValue.flagAddr).run Tryz.prog w = .ok (.agg #[.pointer (some ⟨gsz, 225, none⟩), .pointer (some p), .int .u64 409]) w := by kernel_rfl
theorem wr_elemV (a p : Addr) (W : World) (ha : W.cell? a = some (.pointer (some p))) :
    (ReflectliteValue.method (ReflectliteValue.valueError "reflectlite.Value.Elem" 0) ReflectliteValue.elem #[.agg #[.pointer (some ⟨gsz, 227, none⟩), .pointer (some a), .int .u64 150]]).run Tryz.prog W
      = .ok (.agg #[.pointer (some ⟨gsz, 225, none⟩), .pointer (some p), .int .u64 409]) W := by
  rw [wr_rlm]
  simp only [Sem.run_bind, wr_partsP, Result.andThen]
  simp [ReflectliteValue.elem, loadVar, isAgg, underlying, Tryz.underlying227, ha, Result.andThen, wr_elemOf, wr_mkW]
theorem wr_rls (v x : Value) : ReflectliteValue.set #[v, x] = (do
    let (some (dst, a, fl), some (src, b, _)) := (← ReflectliteValue.parts v, ← ReflectliteValue.parts x)
      | unsupported (.noEntry "extern/(internal/reflectlite.Value).Set.zeroValue")
    if fl / ReflectliteValue.flagAddr % 2 == 0 then unsupported (.noEntry "extern/(internal/reflectlite.Value).Set.unaddressable")
    let val ← loadVar src b
    if ← Rtype.directlyAssignable dst src then storeVar dst a val
    else if ← Rtype.implements dst src then
      if (← Rtype.kind src) == 20 then
        match val with
        | .nilIface => unsupported (.noEntry "extern/reflectlite: a nil value of one interface type handed on as a value of another")
        | _ => storeVar dst a val
      else storeVar dst a (.iface src val)
    else panicString ("reflectlite.Set: value of type " ++ (← Rtype.spelt src) ++ " is not assignable to type " ++ (← Rtype.spelt dst))
    pure (.tuple #[])) := rfl
theorem wr_parts409 (a : Addr) (w : World) : (ReflectliteValue.parts (.agg #[.pointer (some ⟨gsz, 225, none⟩), .pointer (some a), .int .u64 409])).run Tryz.prog w = .ok (some (225, a, 409)) w := by kernel_rfl
theorem wr_parts153 (a : Addr) (w : World) : (ReflectliteValue.parts (.agg #[.pointer (some ⟨gsz, 225, none⟩), .pointer (some a), .int .u64 153])).run Tryz.prog w = .ok (some (225, a, 153)) w := by kernel_rfl
theorem wr_direct (w : World) : (Rtype.directlyAssignable 225 225).run Tryz.prog w = .ok true w := by kernel_rfl
theorem wr_size (w : World) : (sizeOf 225).run Tryz.prog w = .ok 1 w := by kernel_rfl
theorem wr_isAgg (w : World) : (isAgg 225).run Tryz.prog w = .ok true w := by kernel_rfl
theorem wr_set (g h : Nat) (x : Int) (old : Value) (W : World) (hb : W.cell? ⟨g, 0, none⟩ = some (.int .i64 x)) (ht : W.cell? ⟨h, 0, none⟩ = some old) (hf : W.frozen? ⟨h, 0, none⟩ = false) :
    (ReflectliteValue.set #[.agg #[.pointer (some ⟨gsz, 225, none⟩), .pointer (some ⟨h, 0, none⟩), .int .u64 409], .agg #[.pointer (some ⟨gsz, 225, none⟩), .pointer (some ⟨g, 0, none⟩), .int .u64 153]]).run Tryz.prog W
      = .ok (.tuple #[]) (W.setCell ⟨h, 0, none⟩ (.int .i64 x)) := by
  rw [wr_rls]
  simp only [Sem.run_bind, wr_parts409, wr_parts153, Result.andThen]
  simp [ReflectliteValue.flagAddr, loadVar, wr_isAgg, wr_size, loadCells, loadCellsFrom, hb, Result.andThen, wr_direct, storeVar, Value.cells, storeCells, Addr.add]
  rw [run_store Tryz.prog W _ _ _ (by rfl)]
  simp [ht, hf]
end Go.Proofs.YtgoogihfggndpaaGreatDoor
