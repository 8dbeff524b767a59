/- errors.As at *wrong; region.errno. -/
import Derived.Test.YtgoogihfggndpaaGreatDoorZk
import Derived.Test.YtgoogihfggndpaaGreatDoorGA
namespace Go.Proofs.YtgoogihfggndpaaGreatDoor
set_option linter.unusedVariables false
set_option linter.unusedSimpArgs false
open Go.RowKit Go.Extern.Stop Go.Stop Go.Extern

set_option maxRecDepth 100000 in
set_option maxHeartbeats 4000000 in
theorem As_w {w : World} (x : Int) (t : Nat) (old : Value) (hg : w.cell? ⟨3, 0, none⟩ = some (.iface 289 (.agg #[.pointer (some ⟨gsz, 149, none⟩)]))) (ht : w.cell? ⟨t, 0, none⟩ = some old) (hf : w.frozen? ⟨t, 0, none⟩ = false) :
    Calls Tryz.prog 185 #[.iface 225 (.agg #[.int .i64 x]), .iface 227 (.pointer (some ⟨t, 0, none⟩))] w fun e w' => e = .returned (.bool true) ∧ Fr [t] w w' := by
  have h6 := @run_callFunc_extern Tryz.prog 238 _ (fun args => ReflectliteValue.unpack (args.getD 0 (.tuple #[]))) Tryz.func238 (by kernel_rfl) (by kernel_rfl) (by kernel_rfl) (by kernel_rfl)
  have h7 := @run_callFunc_extern Tryz.prog 239 _ (ReflectliteValue.methodAny (ReflectliteValue.valueError "reflectlite.Value.Type" 0) (fun t _ _ _ => ReflectliteType.toType t)) Tryz.func239 (by kernel_rfl) (by kernel_rfl) (by kernel_rfl) (by kernel_rfl)
  have h8 := @run_callFunc_extern Tryz.prog 240 _ (ReflectliteValue.method (ReflectliteValue.valueError "reflectlite.Value.IsNil" 0) ReflectliteValue.isNil) Tryz.func240 (by kernel_rfl) (by kernel_rfl) (by kernel_rfl) (by kernel_rfl)
  have h27 := @run_callFunc_extern Tryz.prog 278 _ (ReflectliteType.abiMethod fun t => do pure (.int .u8 (← Rtype.kind t))) Tryz.func278 (by kernel_rfl) (by kernel_rfl) (by kernel_rfl) (by kernel_rfl)
  have h37 := @run_callFunc_extern Tryz.prog 293 _ (ReflectliteType.method ReflectliteType.elem) Tryz.func293 (by kernel_rfl) (by kernel_rfl) (by kernel_rfl) (by kernel_rfl)
  have h38 := @run_callFunc_extern Tryz.prog 294 _ (ReflectliteType.relation "Implements" ReflectliteType.implements_) Tryz.func294 (by kernel_rfl) (by kernel_rfl) (by kernel_rfl) (by kernel_rfl)
  have h10 := @run_callFunc_extern Tryz.prog 260 _ ReflectliteType.typeOf Tryz.func260 (by kernel_rfl) (by kernel_rfl) (by kernel_rfl) (by kernel_rfl)
  have h35 := @run_callFunc_extern Tryz.prog 291 _ (ReflectliteType.relation "AssignableTo" ReflectliteType.assignableTo) Tryz.func291 (by kernel_rfl) (by kernel_rfl) (by kernel_rfl) (by kernel_rfl)
  have h11 := @run_callFunc_extern Tryz.prog 261 _ (ReflectliteValue.method (ReflectliteValue.valueError "reflectlite.Value.Elem" 0) ReflectliteValue.elem) Tryz.func261 (by kernel_rfl) (by kernel_rfl) (by kernel_rfl) (by kernel_rfl)
  have h12 := @run_callFunc_extern Tryz.prog 262 _ ReflectliteValue.set Tryz.func262 (by kernel_rfl) (by kernel_rfl) (by kernel_rfl) (by kernel_rfl)
  have tO := wr_typeOf
  have mA := wr_methodAssignable
  have a25 := wr_assignable
  have v25 := wr_valueOfW
  have f6 := wr_valueOfP
  have f7 := wr_typeP
  have mK := wr_methodKind
  have mE := wr_methodElem
  have mI := wr_methodImplements
  have k27 := wr_kindP
  have k25 := wr_kindW
  have e27 := wr_elemP
  have i25 := wr_implements
  have htl : t < w.heap.size := by
    rcases Nat.lt_or_ge t w.heap.size with h | h
    · exact h
    · simp [World.cell?, Array.getElem?_eq_none h] at ht
  have hgl : 3 < w.heap.size := by
    rcases Nat.lt_or_ge 3 w.heap.size with h | h
    · exact h
    · simp [World.cell?, Array.getElem?_eq_none h] at hg
  have n8 := wr_isNil ⟨w.heap.size, 0, none⟩ ⟨t, 0, none⟩ ((w.alloc (.cells #[.pointer (some ⟨t, 0, none⟩)] 227)).alloc (.cells #[.pointer (some ⟨gsz, 227, none⟩), .pointer (some ⟨w.heap.size, 0, none⟩), .int .u64 150] 266)) (by simp)
  have hg2 : ((w.alloc (.cells #[.pointer (some ⟨t, 0, none⟩)] 227)).alloc (.cells #[.pointer (some ⟨gsz, 227, none⟩), .pointer (some ⟨w.heap.size, 0, none⟩), .int .u64 150] 266)).cell? ⟨3, 0, none⟩ = some (.iface 289 (.agg #[.pointer (some ⟨gsz, 149, none⟩)])) := by
    rw [World.cell?_alloc_lt _ _ ⟨3, 0, none⟩ (by simp; omega), World.cell?_alloc_lt _ _ ⟨3, 0, none⟩ hgl]; exact hg
  have el := wr_elemV ⟨w.heap.size, 0, none⟩ ⟨t, 0, none⟩ (((w.alloc (.cells #[.pointer (some ⟨t, 0, none⟩)] 227)).alloc (.cells #[.pointer (some ⟨gsz, 227, none⟩), .pointer (some ⟨w.heap.size, 0, none⟩), .int .u64 150] 266)).alloc (.cells #[.pointer (some ⟨gsz, 227, none⟩), .pointer (some ⟨w.heap.size, 0, none⟩), .int .u64 150] 266)) (by rw [World.cell?_alloc_lt _ _ ⟨w.heap.size, 0, none⟩ (by simp; omega)]; simp)
  have st := wr_set (w.heap.size + 1 + 1 + 1) t x old ((((w.alloc (.cells #[.pointer (some ⟨t, 0, none⟩)] 227)).alloc (.cells #[.pointer (some ⟨gsz, 227, none⟩), .pointer (some ⟨w.heap.size, 0, none⟩), .int .u64 150] 266)).alloc (.cells #[.pointer (some ⟨gsz, 227, none⟩), .pointer (some ⟨w.heap.size, 0, none⟩), .int .u64 150] 266)).alloc (.cells #[.int .i64 x] 225))
    (by rw [World.cell?_alloc_at _ _ _ _ (by simp)]; rfl)
    (by rw [World.cell?_alloc_lt _ _ ⟨t, 0, none⟩ (by simp; omega), World.cell?_alloc_lt _ _ ⟨t, 0, none⟩ (by simp; omega), World.cell?_alloc_lt _ _ ⟨t, 0, none⟩ (by simp; omega), World.cell?_alloc_lt _ _ ⟨t, 0, none⟩ htl]; exact ht)
    (by rw [World.frozen?_alloc_old _ _ ⟨t, 0, none⟩ (by simp; omega), World.frozen?_alloc_old _ _ ⟨t, 0, none⟩ (by simp; omega), World.frozen?_alloc_old _ _ ⟨t, 0, none⟩ (by simp; omega), World.frozen?_alloc_old _ _ ⟨t, 0, none⟩ (Nat.ne_of_lt htl)]; exact hf)
  go_enter Tryz.func185, Tryz.ntmps185
  go_wp2
  refine wp_loop_rounds 1 ?_
  rw [rounds_succ]
  go_wp2
  go_ret
  exact ⟨rfl, (((((Fr.refl [t] w).alloc _).alloc _).alloc _).alloc _).setCell (.inl (by simp)) _⟩
end Go.Proofs.YtgoogihfggndpaaGreatDoor
