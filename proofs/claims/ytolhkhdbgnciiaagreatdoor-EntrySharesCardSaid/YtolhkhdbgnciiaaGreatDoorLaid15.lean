/- The five listed variables of a seat without head.sizes, as the row's condition gives them, are the cells that the walks read. -/
import Derived.Test.YtolhkhdbgnciiaaGreatDoorLaid12
import Derived.Test.YtolhkhdbgnciiaaGreatDoorGF
namespace Go.Proofs.YtolhkhdbgnciiaaGreatDoor
set_option linter.unusedVariables false
set_option linter.unusedSimpArgs false
open Go.Lib
theorem zps{m:Nat}(k:IntKind):∀(rows:List (List Int)) (cs:List Value),cs.length=rows.length*m→(∀i r,rows[i]?=some r→(cs.drop (i*m)).take m=r.map fun z=>Value.int k z)→cs=rows.flatten.map fun z=>Value.int k z
 | [],cs,h,_=>by simp at h;simp[h]
 |r::rows,cs,h,hp=>by
  have h0:=hp 0 r rfl;rw[Nat.zero_mul,List.drop_zero]at h0
  have h1:=zps (m:=m) k rows (cs.drop m) (by rw[List.length_drop,h,List.length_cons,Nat.succ_mul,Nat.add_sub_cancel]) (fun i r' hr=>by
   have:=hp (i+1) r' hr;rw[List.drop_drop];rwa[Nat.succ_mul,Nat.add_comm]at this)
  rw[List.flatten_cons,List.map_append,←h0,←h1,List.take_append_drop]
theorem zdy {H : Type} {enc : TypeId × Value → H} {P : Program} {w : World} {base : Nat} {sp : Nat → Bool} {held : Bool} {fuel : Nat} {t e f : TypeId} {n m : Nat} {k : IntKind} {cs : List Value} {rows : List (List Int)} {p : List MemPlace}
    (ht : P.underlying t = some (.array n e)) (he : P.underlying e = some (.array m f)) (hf : P.underlying f = some (.int k)) (hcf : P.cellsOf f = 1) (hce : P.cellsOf e = m) (hct : P.cellsOf t = n * m)
    (h : DataW.trod enc P w base sp held fuel t cs = some (.agg (rows.map (tabData k)), p)) : cs = rows.flatten.map fun z => Value.int k z := by
  obtain ⟨xs, j, rfl, hx, hl, hn, hi⟩ := DataW.trod_array ht h
  simp only [Prod.mk.injEq, DataW.agg.injEq] at hx
  have hrl : rows.length = n := by
    have := congrArg List.length hx.1
    simp at this
    omega
  refine zps (m := m) k rows cs (by rw [hl, hct, hrl]) fun i r hr => ?_
  have hin : i < n := by rw [← hrl]; exact (List.getElem?_eq_some_iff.1 hr).1
  have hti := hi i hin
  rw [hce, List.getElem?_eq_getElem (by omega)] at hti
  have hxi : (xs[i]'(by omega)).1 = tabData k r := by
    have h1 : (xs.map (·.1))[i]? = (rows.map (tabData k))[i]? := by rw [hx.1]
    rw [List.getElem?_map, List.getElem?_map, List.getElem?_eq_getElem (by omega), hr] at h1
    simpa using h1
  exact cells_of_tab (p := (xs[i]'(by omega)).2) he hf hcf hce (by rw [hti, ← hxi])
theorem gNow:Tryz.prog.globalNamed "columbarium/head.nowhere"=some 1:=by kernel_rfl
theorem gCom:Tryz.prog.globalNamed "columbarium/head.common"=some 3:=by kernel_rfl
theorem gOwn:Tryz.prog.globalNamed "columbarium/head.own"=some 4:=by kernel_rfl
theorem tNow:(Tryz.prog.globals[1]?).map (·.type)=some 227:=by kernel_rfl
theorem tCom:(Tryz.prog.globals[3]?).map (·.type)=some 278:=by kernel_rfl
theorem tOwn:(Tryz.prog.globals[4]?).map (·.type)=some 279:=by kernel_rfl
theorem cInt:Tryz.prog.cellsOf 3=1:=by kernel_rfl
theorem cRow:Tryz.prog.cellsOf 227=2:=by kernel_rfl
theorem zoe{W:World}{g:Nat}{cs:Array Value}{l:List Int}{nm:String}(hg:Tryz.prog.globalNamed nm=some g)(hv:W.var? Tryz.prog nm=some cs)(h:cs.toList=l.map fun z=>Value.int .i64 z)(i:Nat):W.cell? ⟨g,i,none⟩=(zd3 l)[i]?:=by
 rw[World.var?_cell hg hv i];rw[←Array.getElem?_toList,h];simp[zd3]
theorem zd7{W:World}{g o:Nat}{v:Value}(h:W.cell? ⟨g,o,none⟩=some v):g<W.heap.size:=by
 unfold World.cell? at h;cases hb:W.heap[g]? with
 |none=>rw[show(⟨g,o,none⟩:Addr).block=g from rfl,hb]at h;cases h
 |some o=>exact(Array.getElem?_eq_some_iff.1 hb).1
theorem zt9{W:World}{p1 p2 p3:List MemPlace}{c1 c2 c3:Array Value}{f1 f2 f3:Nat}
  (v1:W.var? Tryz.prog "columbarium/head.nowhere"=some c1) (d1:DataW.trod (fun _=>()) Tryz.prog W 0 (fun _=>true) false f1 227 c1.toList=some (Rows.laid_columbarium_head_nowhere,p1))
  (v2:W.var? Tryz.prog "columbarium/head.common"=some c2) (d2:DataW.trod (fun _=>()) Tryz.prog W 0 (fun _=>true) false f2 278 c2.toList=some (Rows.laid_columbarium_head_common,p2))
  (v3:W.var? Tryz.prog "columbarium/head.own"=some c3) (d3:DataW.trod (fun _=>()) Tryz.prog W 0 (fun _=>true) false f3 279 c3.toList=some (Rows.laid_columbarium_head_own,p3))
  :Tabs W:=by
 have e1:=cells_of_tab (k:= .i64) (zs:= [0,0]) Tryz.underlying227 Tryz.underlying3 cInt cRow d1
 have e2:=zdy (k:= .i64) (rows:= [[0,1],[1,1],[2,1],[3,1],[4,4]]) Tryz.underlying278 Tryz.underlying227 Tryz.underlying3 cInt cRow (by kernel_rfl) d2
 have e3:=zdy (k:= .i64) (rows:= [[8,4],[12,4],[16,8],[24,2],[26,2],[28,4]]) Tryz.underlying279 Tryz.underlying227 Tryz.underlying3 cInt cRow (by kernel_rfl) d3
 have a1:=zoe gNow v1 e1
 have a3:=zoe gCom v2 e2
 have a4:=zoe gOwn v3 e3
 have z1:=zd7 (a1 0)
 have z3:=zd7 (a3 0)
 have z4:=zd7 (a4 0)
 exact⟨a1,a3,a4,by omega⟩
def laid5:List (String×DataW Unit):= [("columbarium/class.sizes",Rows.laid_columbarium_class_sizes),("columbarium/memory.fields",Rows.laid_columbarium_memory_fields),("columbarium/head.nowhere",Rows.laid_columbarium_head_nowhere),("columbarium/head.common",Rows.laid_columbarium_head_common),("columbarium/head.own",Rows.laid_columbarium_head_own)]
theorem tabs5_of_laid{W:World}(h:laidMetH Tryz.prog laid5 W):TabM W∧Tabs W:=by
 rw[MakeChecks.laidMetH_plain _ _ _ (by kernel_rfl)]at h;obtain⟨ps,⟨k1,u1,b1,j1,r1,s1,kg1,kt1,kv1,kd1,⟨k2,u2,b2,j2,r2,s2,kg2,kt2,kv2,kd2,⟨g1,t1,c1,f1,p1,q1,hg1,ht1,hv1,hd1,⟨g2,t2,c2,f2,p2,q2,hg2,ht2,hv2,hd2,⟨g3,t3,c3,f3,p3,q3,hg3,ht3,hv3,hd3,_,_⟩,_⟩,_⟩,_⟩,_⟩,_,_⟩:=h;obtain rfl:=Option.some.inj (gCls.symm.trans kg1);obtain rfl:=Option.some.inj (gFld.symm.trans kg2);obtain rfl:=Option.some.inj (tCls.symm.trans kt1);obtain rfl:=Option.some.inj (tFld.symm.trans kt2);obtain rfl:=Option.some.inj (gNow.symm.trans hg1);obtain rfl:=Option.some.inj (gCom.symm.trans hg2);obtain rfl:=Option.some.inj (gOwn.symm.trans hg3);obtain rfl:=Option.some.inj (tNow.symm.trans ht1);obtain rfl:=Option.some.inj (tCom.symm.trans ht2);obtain rfl:=Option.some.inj (tOwn.symm.trans ht3);exact⟨zu2 kv1 kd1 kv2 kd2,zt9 hv1 hd1 hv2 hd2 hv3 hd3⟩
end Go.Proofs.YtolhkhdbgnciiaaGreatDoor
