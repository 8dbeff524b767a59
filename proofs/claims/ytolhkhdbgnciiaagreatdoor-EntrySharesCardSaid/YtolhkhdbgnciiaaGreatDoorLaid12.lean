/- The listed variables of class and memory, as the row's condition gives them, are the cells that the walks read. -/
import Derived.Test.YtolhkhdbgnciiaaGreatDoorGB
import Derived.Lib.LaidTab
import Derived.MakeChecks
import Derived.Lay
namespace Go.Proofs.YtolhkhdbgnciiaaGreatDoor
set_option linter.unusedVariables false
set_option linter.unusedSimpArgs false
open Go.Lib
theorem zqh{W:World}{g:Nat}{cs:Array Value}{l:List Int}{nm:String}(hg:Tryz.prog.globalNamed nm=some g)(hv:W.var? Tryz.prog nm=some cs)(h:cs.toList=l.map fun z=>Value.int .i64 z)(i:Nat):W.cell? ⟨g,i,none⟩=(zht l)[i]?:=by
 rw[World.var?_cell hg hv i];rw[←Array.getElem?_toList,h];simp[zht]
theorem ztu{W:World}{g o:Nat}{v:Value}(h:W.cell? ⟨g,o,none⟩=some v):g<W.heap.size:=by
 unfold World.cell? at h;cases hb:W.heap[g]? with
 |none=>rw[show(⟨g,o,none⟩:Addr).block=g from rfl,hb]at h;cases h
 |some o=>exact(Array.getElem?_eq_some_iff.1 hb).1
theorem gCls:Tryz.prog.globalNamed "columbarium/class.sizes"=some 2:=by kernel_rfl
theorem gFld:Tryz.prog.globalNamed "columbarium/memory.fields"=some 0:=by kernel_rfl
theorem tCls:(Tryz.prog.globals[2]?).map (·.type)=some 241:=by kernel_rfl
theorem tFld:(Tryz.prog.globals[0]?).map (·.type)=some 133:=by kernel_rfl
theorem mInt:Tryz.prog.cellsOf 3=1:=by kernel_rfl
theorem zu2{W:World}{p1 p2:List MemPlace}{c1 c2:Array Value}{f1 f2:Nat}
  (v1:W.var? Tryz.prog "columbarium/class.sizes"=some c1) (d1:DataW.trod (fun _=>()) Tryz.prog W 0 (fun _=>true) false f1 241 c1.toList=some (Rows.laid_columbarium_class_sizes,p1))
  (v2:W.var? Tryz.prog "columbarium/memory.fields"=some c2) (d2:DataW.trod (fun _=>()) Tryz.prog W 0 (fun _=>true) false f2 133 c2.toList=some (Rows.laid_columbarium_memory_fields,p2)):TabM W:=by
 have e1:=cells_of_tab (k:= .i64) (zs:= [0,32,48,64,96,128,192,256,384,512]) Tryz.underlying241 Tryz.underlying3 mInt (by kernel_rfl) d1
 have e2:=cells_of_tab (k:= .i64) (zs:= [8,12,16,20,24,28,32,36,40,44,48,52,56,60,64,68,72,80,84,88,92]) Tryz.underlying133 Tryz.underlying3 mInt (by kernel_rfl) d2
 have a1:=zqh gCls v1 e1
 have a2:=zqh gFld v2 e2
 have z1:=ztu (a1 0)
 have z2:=ztu (a2 0)
 exact⟨a1,a2,by omega⟩
end Go.Proofs.YtolhkhdbgnciiaaGreatDoor
