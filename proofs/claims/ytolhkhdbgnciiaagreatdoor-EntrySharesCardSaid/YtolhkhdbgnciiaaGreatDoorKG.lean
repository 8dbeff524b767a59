/- Several texts in one. -/
import Derived.Test.YtolhkhdbgnciiaaGreatDoorKF
namespace Go.Proofs.YtolhkhdbgnciiaaGreatDoor
open _root_.Go.Proofs.Tryz
open Go.Lib (hid)
open Go.IntWalk (i64_in)
set_option linter.unusedVariables false
set_option linter.unusedSimpArgs false
open Go.RowKit
set_option maxRecDepth 1000000
set_option maxHeartbeats 4000000
def isEn(E:Nat→HB)(name typ hs:Nat)(z:Nat):Bool:=(E z).tag==1&&(E z).name==name&&(E z).typ==typ&&(E z).hash==hs
section
variable {w : World} {q : MH} {t : TM} {L : Nat → Prop} {E : Nat → HB}
theorem zzk(h:IsH w q t)(g:IxI t L E)(P:Nat→Bool)(hs bA bB bC bD:Nat)(hh:hs<4294967296)(hIS:∀W,IsH W q t→Fr q.blocks w W→∀y,L y→Calls prog 153 #[.int .i64 y,.pointer (some ⟨bA,0,none⟩),.pointer (some ⟨bB,0,none⟩),.pointer (some ⟨bC,0,none⟩),.pointer (some ⟨bD,0,none⟩)] W fun e w'=>e= .returned (.bool (P y))∧IsH w' q t∧Fr q.blocks W w'):Calls prog 227 #[.agg #[.pointer (some ⟨q.m,0,none⟩),.int .i64 t.s],.agg #[.int .u32 hs,.func (.func 153) #[] #[.pointer (some ⟨bA,0,none⟩),.pointer (some ⟨bB,0,none⟩),.pointer (some ⟨bC,0,none⟩),.pointer (some ⟨bD,0,none⟩)]]] w fun e w'=>e= .returned (.int .i64 (optZ (fndT t.sl (hmE t E) t.s (hs %t.s) P)))∧IsH w' q t∧Fr q.blocks w w':=by
 have b0:((t.s:Int)==0)=false:=by have:=g.s0;rw[beq_eq_false_iff_ne];omega
 have b0':(t.s==0)=false:=by have:=g.s0;rw[beq_eq_false_iff_ne];omega
 have hs1:=g.s1;have hml:hs %t.s<t.s:=Nat.mod_lt _ g.s0;have HM:=hid (fun W=>zk8 W hs t.s hh g.s0 (by have:=g.s1;omega));have HE:=hid (fun W k (hk:k<t.s) (hW:IsH W q t)=>(show Calls prog 182 #[.agg #[.pointer (some ⟨q.m,0,none⟩),.int .i64 t.s],.int .i64 (hs %t.s+k:Nat),.int .i64 k] W fun e w'=>e= .returned (.bool (endB t.sl (hmE t E) t.s (hs %t.s+k) k))∧IsH w' q t∧Fr q.blocks W w' from zj6 hW g (hs %t.s+k) k (by omega)))
 have HG:=hid (fun W k (hk:k<t.s) (hW:IsH W q t)=>(show Calls prog 141 #[.agg #[.pointer (some ⟨q.m,0,none⟩),.int .i64 t.s],.int .i64 (hs %t.s+k:Nat)] W fun e w'=>e= .returned (.int .i64 (t.sl ((hs %t.s+k) %t.s)))∧IsH w' q t∧Fr q.blocks W w' from
  (iget hW.m _ (by omega) g.s0).mono fun e w' ⟨he,k1,k2⟩=>⟨he,hW.step k1 k2,k2⟩))
 have HO:=hid (fun W k (hk:k<t.s)=>(show Calls prog 230 #[.agg #[.pointer (some ⟨q.m,0,none⟩),.int .i64 t.s],.int .i64 (hs %t.s+k:Nat)] W fun e w'=>e= .returned (.int .i64 ((hs %t.s+k) %t.s:Nat))∧Fr [] W w' from zgf W q.m t.s _ g.s0 (by omega)));have HIS:=hid hIS
 have HLV:=hid (show∀i j,endB t.sl (hmE t E) t.s i j=false→L (t.sl (i %t.s))from fun i j e=>by
  unfold endB at e;by_cases h0:t.sl (i %t.s)=0
  ·rw[if_pos h0]at e;exact nomatch e
  ·exact(g.sl _ (Nat.mod_lt _ g.s0)).resolve_left h0)
 have H0:=hid ((h.alloc (.cells #[.pointer (some ⟨q.m,0,none⟩),.int .i64 t.s] 136)).alloc (.cells #[.int .u32 hs,.func (.func 153) #[] #[.pointer (some ⟨bA,0,none⟩),.pointer (some ⟨bB,0,none⟩),.pointer (some ⟨bC,0,none⟩),.pointer (some ⟨bD,0,none⟩)]] 203));have F0:=hid (((Fr.refl q.blocks w).alloc (.cells #[.pointer (some ⟨q.m,0,none⟩),.int .i64 t.s] 136)).alloc (.cells #[.int .u32 hs,.func (.func 153) #[] #[.pointer (some ⟨bA,0,none⟩),.pointer (some ⟨bB,0,none⟩),.pointer (some ⟨bC,0,none⟩),.pointer (some ⟨bD,0,none⟩)]] 203));have B0:=hid ((Blk.new w 136 #[.pointer (some ⟨q.m,0,none⟩),.int .i64 t.s]).alloc (.cells #[.int .u32 hs,.func (.func 153) #[] #[.pointer (some ⟨bA,0,none⟩),.pointer (some ⟨bB,0,none⟩),.pointer (some ⟨bC,0,none⟩),.pointer (some ⟨bD,0,none⟩)]] 203));have hb1:=Blk.new (w.alloc (.cells #[.pointer (some ⟨q.m,0,none⟩),.int .i64 t.s] 136)) 203 #[.int .u32 hs,.func (.func 153) #[] #[.pointer (some ⟨bA,0,none⟩),.pointer (some ⟨bB,0,none⟩),.pointer (some ⟨bC,0,none⟩),.pointer (some ⟨bD,0,none⟩)]];rw[World.size_alloc]at hb1;have B1:=hid hb1;have hlt:=h.m.lt;have nb:w.heap.size∉q.blocks:=fun hm=>by have:=hlt _ hm;omega
 have nb1:w.heap.size+1∉q.blocks:=fun hm=>by have:=hlt _ hm;omega
 obtain⟨W0,hW0⟩:∃W0,(w.alloc (.cells #[.pointer (some ⟨q.m,0,none⟩),.int .i64 t.s] 136)).alloc (.cells #[.int .u32 hs,.func (.func 153) #[] #[.pointer (some ⟨bA,0,none⟩),.pointer (some ⟨bB,0,none⟩),.pointer (some ⟨bC,0,none⟩),.pointer (some ⟨bD,0,none⟩)]] 203)=W0:=⟨_,rfl⟩;have HW0:=hid hW0;rw[hW0]at H0 F0 B0 B1;have DC:=hid (fun V (hV:Fr q.blocks W0 V)=>And.intro (show V.cell? ⟨w.heap.size,0,none⟩=some (.pointer (some ⟨q.m,0,none⟩))from(B0.out.fr hV nb).cell 0) (And.intro (show V.cell? ⟨w.heap.size,1,none⟩=some (.int .i64 t.s)from(B0.out.fr hV nb).cell 1) (And.intro (show V.cell? ⟨w.heap.size+1,0,none⟩=some (.int .u32 hs)from(B1.out.fr hV nb1).cell 0) (show V.cell? ⟨w.heap.size+1,1,none⟩=some (.func (.func 153) #[] #[.pointer (some ⟨bA,0,none⟩),.pointer (some ⟨bB,0,none⟩),.pointer (some ⟨bC,0,none⟩),.pointer (some ⟨bD,0,none⟩)])from(B1.out.fr hV nb1).cell 1))));obtain⟨R,hR⟩:∃R,fndT t.sl (hmE t E) t.s (hs %t.s) P=R:=⟨_,rfl⟩;rw[hR];have HR:=hid (show fndS t.sl (hmE t E) t.s (hs %t.s) P (t.s-0) 0=R from hR)
 have HUN:=hid (show∀k,k<t.s→fndS t.sl (hmE t E) t.s (hs %t.s) P (t.s-k) k=if endB t.sl (hmE t E) t.s (hs %t.s+k) k=true then none else if P (t.sl ((hs %t.s+k) %t.s))=true then some ((hs %t.s+k) %t.s)else fndS t.sl (hmE t E) t.s (hs %t.s) P (t.s-(k+1)) (k+1)from fun k hk=>by
  rw[show t.s-k=(t.s-(k+1))+1 by omega,fndS])
 have HZ:=hid (show fndS t.sl (hmE t E) t.s (hs %t.s) P (t.s-t.s) t.s=none from by rw[Nat.sub_self];rfl);generalize hF9:fndS t.sl (hmE t E) t.s (hs %t.s) P=FS at*;generalize hsl:t.sl=T at*;generalize hmE t E=H at*;generalize hsz:t.s=s at*;generalize hs %s=hm at*;clear h hlt g hR hsl hF9 hb1 hh hIS;go_enter func227,ntmps227;go_wp2_with fail;try rw[hW0]
 clear hsz hW0;have d0:=(DC.out _ (Fr.refl _ _)).1;have d1:=(DC.out _ (Fr.refl _ _)).2.1;have d2:=(DC.out _ (Fr.refl _ _)).2.2.1;have d3:=(DC.out _ (Fr.refl _ _)).2.2.2;refine wp_scope_jumps 0 (fun a' w'=>∃(k:Nat) (u7 u8 u9 u10 u11 u12 u13 u14 u15 u16 u17 u18 u19 u20 u21 u22 u23 u24 u25 u26 u27 u28 u29 u30 u31 u32 u33 u34 u35 u36 u37 u38 u39 u40 u41:Value),a'={tmps:= #[.agg #[.pointer (some ⟨q.m,0,none⟩),.int .i64 s],.agg #[.int .u32 hs,.func (.func 153) #[] #[.pointer (some ⟨bA,0,none⟩),.pointer (some ⟨bB,0,none⟩),.pointer (some ⟨bC,0,none⟩),.pointer (some ⟨bD,0,none⟩)]],.pointer (some ⟨w.heap.size,0,none⟩),.pointer (some ⟨w.heap.size+1,0,none⟩),.int .i64 0,.int .i64 hm,.int .i64 k,u7,u8,u9,u10,u11,u12,u13,u14,u15,u16,u17,u18,u19,u20,u21,u22,u23,u24,u25,u26,u27,u28,u29,u30,u31,u32,u33,u34,u35,u36,u37,u38,u39,u40,u41],defers:= []}∧k≤s∧Hid (FS (s-k) k=R)∧Hid (IsH w' q t)∧Hid (Fr q.blocks W0 w')) (fun a' _=>s-(intOf (a'.tmps.getD 6 undef)).toNat) rfl ?_ ?_
 ·go_wp2_with fail
  with_reducible refine(HM.out _).mono ?_
  rintro e w1 ⟨rfl,f1⟩;have hI:=hid (H0.out.fr0 f1);have hF:=hid (f1.nil (S:=q.blocks));have d0:=(DC.out _ hF.out).1;have d1:=(DC.out _ hF.out).2.1;have d2:=(DC.out _ hF.out).2.2.1;have d3:=(DC.out _ hF.out).2.2.2;have hlt:0<s:=by omega
  have b1:((0:Int)==s)=false:=by rw[beq_eq_false_iff_ne];omega
  have b1':(0==s)=false:=by rw[beq_eq_false_iff_ne];omega
  have wq1:IntKind.i64.wrap (hm:Int)=hm:=i64_in _ (by omega);have he:=(show Calls prog 182 #[.agg #[.pointer (some ⟨q.m,0,none⟩),.int .i64 s],.int .i64 hm,.int .i64 0] w1 fun e w'=>e= .returned (.bool (endB T H s hm 0))∧IsH w' q t∧Fr q.blocks w1 w' from HE.out w1 0 hlt hI.out);have hg:=hid (fun W hW=>(show Calls prog 141 #[.agg #[.pointer (some ⟨q.m,0,none⟩),.int .i64 s],.int .i64 hm] W fun e w'=>e= .returned (.int .i64 (T (hm %s)))∧IsH w' q t∧Fr q.blocks W w' from HG.out W 0 hlt hW));have ho:=hid (fun W=>(show Calls prog 230 #[.agg #[.pointer (some ⟨q.m,0,none⟩),.int .i64 s],.int .i64 hm] W fun e w'=>e= .returned (.int .i64 (hm %s:Nat))∧Fr [] W w' from HO.out W 0 hlt));have hu:=HUN.out 0 hlt;rw[HR.out]at hu;simp only[Nat.add_zero]at hu;clear f1 HM;have hLV:endB T H s hm 0=false→L (T (hm %s)):=HLV.out hm 0;generalize endB T H s hm 0=ev at*;generalize T (hm %s)=v at*;generalize hm %s=rk at*;have HU:=hid hu;clear hu;go_wp2_with fail;go_step3;go_wp2_with fail;with_reducible refine he.mono ?_
  rintro e w2 ⟨rfl,h2,f2⟩;have H2:=hid h2;have F2:=hid (hF.out.trans f2);have d0:=(DC.out _ F2.out).1;have d1:=(DC.out _ F2.out).2.1;have d2:=(DC.out _ F2.out).2.2.1;have d3:=(DC.out _ F2.out).2.2.2;clear h2 f2 he;rcases ev with _|_
  ·have HLv:=hid (hLV (by first|exact rfl|trivial))
   have H2d:=hid H2.out.drew;have hY:=And.intro (DC.out _ F2.out.drew).1 (And.intro (DC.out _ F2.out.drew).2.1 (DC.out _ F2.out.drew).2.2.2);go_wp2_with fail;refine wp_region_held_drew (S:=fun W=>W.cell? ⟨w.heap.size,0,none⟩=some (.pointer (some ⟨q.m,0,none⟩))∧W.cell? ⟨w.heap.size,1,none⟩=some (.int .i64 s)∧W.cell? ⟨w.heap.size+1,1,none⟩=some (.func (.func 153) #[] #[.pointer (some ⟨bA,0,none⟩),.pointer (some ⟨bB,0,none⟩),.pointer (some ⟨bC,0,none⟩),.pointer (some ⟨bD,0,none⟩)])) (by kernel_rfl) (hY) (fun yH=> ?_);refine tkY 0 yH ?_;refine tkY 1 yH ?_;refine tkY 2 yH ?_;refine tkY 3 yH ?_;refine tkY 4 yH ?_;refine tkY 5 yH ?_;refine tkC 6 fun K hK=> ?_;go_simp;with_reducible refine(hg.out _ H2d.out).mono ?_
   rintro e w4 ⟨rfl,h4,f4⟩;have H4:=hid h4;have F4:=hid (F2.out.drew.trans f4);have hY:=And.intro (DC.out _ F4.out).1 (And.intro (DC.out _ F4.out).2.1 (DC.out _ F4.out).2.2.2);clear h4 f4;go_wp2_with fail;refine hK.out _ _ _ hY fun yH=> ?_;clear hK K;refine tkC 7 fun K hK=> ?_;go_simp;with_reducible refine(HIS.out _ H4.out (F0.out.trans F4.out) _ HLv.out).mono ?_
   rintro e w5 ⟨rfl,h5,f5⟩;have H5:=hid h5;have F5:=hid (F4.out.trans f5);have hY:=And.intro (DC.out _ F5.out).1 (And.intro (DC.out _ F5.out).2.1 (DC.out _ F5.out).2.2.2);clear h5 f5;go_wp2_with fail;refine hK.out _ _ _ hY fun yH=> ?_;clear hK K;refine wpAnyH_done (by kernel_rfl) ?_ _;try simp only[Act.put,List.getElem_toArray,List.getElem_cons_zero,List.getElem_cons_succ,List.setIfInBounds_toArray,List.set_cons_zero,List.set_cons_succ]
   have d0:=(DC.out _ F5.out).1;have d1:=(DC.out _ F5.out).2.1;obtain⟨c,hc⟩:∃c:Bool,P v=c:=⟨_,rfl⟩;rw[hc];rw[hc]at HU;clear hY;rcases c with _|_
   ·have HN:=hid (show FS (s-1) 1=R from by have:=HU.out;simpa using this.symm)
    go_wp2_with fail;go_step3;refine⟨rfl,1,_,_,_,_,_,_,_,_,_,_,_,_,_,_,_,_,_,_,_,_,_,_,_,_,_,_,_,_,_,_,_,_,_,_,_,by first|rfl|(congr 1;go_num),by omega,HN,H5,F5⟩
   ·have HRR:=hid (show(rk:Int)=optZ R from by have:=HU.out;simp at this;rw[this];rfl)
    go_wp2_with fail;with_reducible refine(ho.out _).mono ?_
    rintro e w6 ⟨rfl,f6⟩;have H6:=hid (H5.out.fr0 f6);have F6:=hid (F5.out.trans f6.nil);clear f6;go_wp2_with fail;try simp only[Exit.jump]
    go_ret;exact⟨by rw[←HRR.out];rfl,H6.out,F0.out.trans F6.out⟩
  ·have HRR:=hid (show(-1:Int)=optZ R from by have:=HU.out;simp at this;rw[this];rfl)
   go_wp2_with fail;try simp only[Exit.jump]
   go_ret;exact⟨by rw[←HRR.out];rfl,H2.out,F0.out.trans F2.out⟩
 ·rintro a' w' ⟨k,u7,u8,u9,u10,u11,u12,u13,u14,u15,u16,u17,u18,u19,u20,u21,u22,u23,u24,u25,u26,u27,u28,u29,u30,u31,u32,u33,u34,u35,u36,u37,u38,u39,u40,u41,rfl,hks,hRk,hI,hF⟩
  have d0:=(DC.out _ hF.out).1;have d1:=(DC.out _ hF.out).2.1;have d2:=(DC.out _ hF.out).2.2.1;have d3:=(DC.out _ hF.out).2.2.2;by_cases hlt:k<s
  ·have b1:((k:Int)==s)=false:=by rw[beq_eq_false_iff_ne];omega
   have b1':(k==s)=false:=by rw[beq_eq_false_iff_ne];omega
   have w1:IntKind.i64.wrap ((hm:Int)+k)=(hm+k:Nat):=by rw[i64_in _ (by omega)];omega
   have w3:=i64_in ((k:Int)+1) (by omega);have he:=HE.out _ k hlt hI.out;have hg:=hid (fun W hW=>HG.out W k hlt hW);have ho:=hid (fun W=>HO.out W k hlt);have hu:=HUN.out k hlt;rw[hRk.out]at hu;generalize hm+k=ak at*;have hLV:endB T H s ak k=false→L (T (ak %s)):=HLV.out ak k;generalize endB T H s ak k=ev at*;generalize T (ak %s)=v at*;generalize ak %s=rk at*;have HU:=hid hu;clear hu;go_wp2_with fail;with_reducible refine he.mono ?_
   rintro e w2 ⟨rfl,h2,f2⟩;have H2:=hid h2;have F2:=hid (hF.out.trans f2);have d0:=(DC.out _ F2.out).1;have d1:=(DC.out _ F2.out).2.1;have d2:=(DC.out _ F2.out).2.2.1;have d3:=(DC.out _ F2.out).2.2.2;clear h2 f2 he;rcases ev with _|_
   ·have HLv:=hid (hLV (by first|exact rfl|trivial))
    have H2d:=hid H2.out.drew;have hY:=And.intro (DC.out _ F2.out.drew).1 (And.intro (DC.out _ F2.out.drew).2.1 (DC.out _ F2.out.drew).2.2.2);go_wp2_with fail;refine wp_region_held_drew (S:=fun W=>W.cell? ⟨w.heap.size,0,none⟩=some (.pointer (some ⟨q.m,0,none⟩))∧W.cell? ⟨w.heap.size,1,none⟩=some (.int .i64 s)∧W.cell? ⟨w.heap.size+1,1,none⟩=some (.func (.func 153) #[] #[.pointer (some ⟨bA,0,none⟩),.pointer (some ⟨bB,0,none⟩),.pointer (some ⟨bC,0,none⟩),.pointer (some ⟨bD,0,none⟩)])) (by kernel_rfl) (hY) (fun yH=> ?_);refine tkY 0 yH ?_;refine tkY 1 yH ?_;refine tkY 2 yH ?_;refine tkY 3 yH ?_;refine tkY 4 yH ?_;refine tkY 5 yH ?_;refine tkC 6 fun K hK=> ?_;go_simp;with_reducible refine(hg.out _ H2d.out).mono ?_
    rintro e w4 ⟨rfl,h4,f4⟩;have H4:=hid h4;have F4:=hid (F2.out.drew.trans f4);have hY:=And.intro (DC.out _ F4.out).1 (And.intro (DC.out _ F4.out).2.1 (DC.out _ F4.out).2.2.2);clear h4 f4;go_wp2_with fail;refine hK.out _ _ _ hY fun yH=> ?_;clear hK K;refine tkC 7 fun K hK=> ?_;go_simp;with_reducible refine(HIS.out _ H4.out (F0.out.trans F4.out) _ HLv.out).mono ?_
    rintro e w5 ⟨rfl,h5,f5⟩;have H5:=hid h5;have F5:=hid (F4.out.trans f5);have hY:=And.intro (DC.out _ F5.out).1 (And.intro (DC.out _ F5.out).2.1 (DC.out _ F5.out).2.2.2);clear h5 f5;go_wp2_with fail;refine hK.out _ _ _ hY fun yH=> ?_;clear hK K;refine wpAnyH_done (by kernel_rfl) ?_ _;try simp only[Act.put,List.getElem_toArray,List.getElem_cons_zero,List.getElem_cons_succ,List.setIfInBounds_toArray,List.set_cons_zero,List.set_cons_succ]
    have d0:=(DC.out _ F5.out).1;have d1:=(DC.out _ F5.out).2.1;obtain⟨c,hc⟩:∃c:Bool,P v=c:=⟨_,rfl⟩;rw[hc];rw[hc]at HU;clear hY;rcases c with _|_
    ·have HN:=hid (show FS (s-(k+1)) (k+1)=R from by have:=HU.out;simpa using this.symm)
     go_wp2_with fail;go_step3;refine⟨rfl,⟨k+1,_,_,_,_,_,_,_,_,_,_,_,_,_,_,_,_,_,_,_,_,_,_,_,_,_,_,_,_,_,_,_,_,_,_,_,by first|rfl|(congr 1;go_num),by omega,HN,H5,F5⟩,by simp[intOf];omega⟩
    ·have HRR:=hid (show(rk:Int)=optZ R from by have:=HU.out;simp at this;rw[this];rfl)
     go_wp2_with fail;with_reducible refine(ho.out _).mono ?_
     rintro e w6 ⟨rfl,f6⟩;have H6:=hid (H5.out.fr0 f6);have F6:=hid (F5.out.trans f6.nil);clear f6;go_wp2_with fail;try simp only[Exit.jump]
     go_ret;exact⟨by rw[←HRR.out];rfl,H6.out,F0.out.trans F6.out⟩
   ·have HRR:=hid (show(-1:Int)=optZ R from by have:=HU.out;simp at this;rw[this];rfl)
    go_wp2_with fail;try simp only[Exit.jump]
    go_ret;exact⟨by rw[←HRR.out];rfl,H2.out,F0.out.trans F2.out⟩
  ·obtain rfl:k=s:=by omega
   have b1:((k:Int)==k)=true:=by simp
   have HRR:=hid (show(-1:Int)=optZ R from by have:=hRk.out;rw[HZ.out]at this;rw[←this];rfl);go_wp2_with fail;try simp only[Exit.jump]
   go_ret;exact⟨by rw[←HRR.out];rfl,hI.out,F0.out.trans hF.out⟩
end
section
variable {w : World} {q : MH} {t : TM} {x : Nat} {X : HB} {L : Nat → Prop} {E : Nat → HB}
theorem zwn(h:IsH w q t)(hx:BlkE t x X)(name typ hs bA bB bC bD:Nat)(cA:w.cell? ⟨bA,0,none⟩=some (.pointer (some ⟨q.m,0,none⟩)))(nB:bB∉q.blocks)(nC:bC∉q.blocks)(nD:bD∉q.blocks)
  (kB:Blk w bB 87 #[.int .u32 name]) (kC:Blk w bC 32 #[.int .u16 typ]) (kD:Blk w bD 87 #[.int .u32 hs]):
  Calls prog 153 #[.int .i64 x,.pointer (some ⟨bA,0,none⟩),.pointer (some ⟨bB,0,none⟩),.pointer (some ⟨bC,0,none⟩),.pointer (some ⟨bD,0,none⟩)] w fun e w'=>e= .returned (.bool (X.tag==1&&X.name==name&&X.typ==typ&&X.hash==hs))∧IsH w' q t∧Fr q.blocks w w':=by
 have HG:=hid (fun W (hW:IsH W q t)=>(show Calls prog 117 #[.pointer (some ⟨q.m,0,none⟩),.int .i64 x] W fun e w'=>e= .returned (.tuple #[.agg #[.int .i64 X.tag,.int .i64 X.cls,.bool X.used,.int .i64 X.label,.int .u32 X.name,.int .u32 X.next,.int .u32 X.prev,.int .u32 X.refs,.int .u64 X.expiry,.int .u16 X.typ,.int .i64 X.size,.int .u32 X.hash],.int .i64 0])∧IsH w' q t∧Fr q.blocks W w' from
  hget W q t hW x X.tag.toNat 5 X hx.h hx.ok hx.r (by rcases hx.tg with e|e<;>rw[e] <;>rfl) hx.lies (.inl rfl)))
 have H0:=hid h;have KB:=hid kB;have KC:=hid kC;have KD:=hid kD;obtain⟨tag,cls,used,label,nm,next,prev,refs,expiry,ty,size,hash⟩:=X;simp only at HG⊢;obtain⟨b1,h1⟩:∃b:Bool,(tag==1)=b:=⟨_,rfl⟩;obtain⟨b2,h2⟩:∃b:Bool,(nm==name)=b:=⟨_,rfl⟩;obtain⟨b3,h3⟩:∃b:Bool,(ty==typ)=b:=⟨_,rfl⟩;obtain⟨b4,h4⟩:∃b:Bool,(hash==hs)=b:=⟨_,rfl⟩;have e2:((nm:Int)==name)=b2:=by rw[←h2,Bool.eq_iff_iff,beq_iff_eq,beq_iff_eq];omega
 have e3:((ty:Int)==typ)=b3:=by rw[←h3,Bool.eq_iff_iff,beq_iff_eq,beq_iff_eq];omega
 have e4:((hash:Int)==hs)=b4:=by rw[←h4,Bool.eq_iff_iff,beq_iff_eq,beq_iff_eq];omega
 have HB:=hid (show(tag==1&&nm==name&&ty==typ&&hash==hs)=(b1&&b2&&b3&&b4)from by rw[h1,h2,h3,h4]);rw[h1,h2,h3,h4];clear h hx kB kC kD h2 h3 h4;go_enter func153,ntmps153;go_wp2_with fail;with_reducible refine(HG.out _ H0.out).mono ?_
 rintro e w1 ⟨rfl,k1,f1⟩;have K1:=hid k1;have F1:=hid f1;have cB:=(KB.out.fr f1 nB).alloc (.cells #[.int .i64 tag,.int .i64 cls,.bool used,.int .i64 label,.int .u32 nm,.int .u32 next,.int .u32 prev,.int .u32 refs,.int .u64 expiry,.int .u16 ty,.int .i64 size,.int .u32 hash] 89);have cC:=(KC.out.fr f1 nC).alloc (.cells #[.int .i64 tag,.int .i64 cls,.bool used,.int .i64 label,.int .u32 nm,.int .u32 next,.int .u32 prev,.int .u32 refs,.int .u64 expiry,.int .u16 ty,.int .i64 size,.int .u32 hash] 89);have cD:=(KD.out.fr f1 nD).alloc (.cells #[.int .i64 tag,.int .i64 cls,.bool used,.int .i64 label,.int .u32 nm,.int .u32 next,.int .u32 prev,.int .u32 refs,.int .u64 expiry,.int .u16 ty,.int .i64 size,.int .u32 hash] 89);have d2:=cB.cell 0;have d3:=cC.cell 0;have d4:=cD.cell 0;simp only[List.getElem?_toArray,List.getElem?_cons_zero]at d2 d3 d4;clear k1 f1 cB cC cD HG;rcases b1 with _|_<;>rcases b2 with _|_<;>rcases b3 with _|_<;>rcases b4 with _|_
 all_goals
  go_wp2_with fail;go_ret;exact⟨rfl,K1.out.alloc _,F1.out.alloc _⟩
theorem zjc{T H:Nat→Nat}{n h0:Nat}{P:Nat→Bool}(hn:0<n):∀f k i,fndS T H n h0 P f k=some i→i<n
 |0,k,i,h=>nomatch h
 |f+1,k,i,h=>by
  unfold fndS at h;split at h
  ·exact nomatch h
  ·split at h
   ·injection h with h
    rw[←h];exact Nat.mod_lt _ hn
   ·exact zjc hn f (k+1) i h
theorem zvr(h:IsH w q t)(g:IxI t L E)(P:Nat→Bool)(hs bA bB bC bD:Nat)(hh:hs<4294967296)(hIS:∀W,IsH W q t→Fr q.blocks w W→∀y,L y→Calls prog 153 #[.int .i64 y,.pointer (some ⟨bA,0,none⟩),.pointer (some ⟨bB,0,none⟩),.pointer (some ⟨bC,0,none⟩),.pointer (some ⟨bD,0,none⟩)] W fun e w'=>e= .returned (.bool (P y))∧IsH w' q t∧Fr q.blocks W w'):Calls prog 152 #[.agg #[.pointer (some ⟨q.m,0,none⟩),.int .i64 t.s],.agg #[.int .u32 hs,.func (.func 153) #[] #[.pointer (some ⟨bA,0,none⟩),.pointer (some ⟨bB,0,none⟩),.pointer (some ⟨bC,0,none⟩),.pointer (some ⟨bD,0,none⟩)]]] w fun e w'=>e= .returned (match fndT t.sl (hmE t E) t.s (hs %t.s) P with|some i=> .tuple #[.int .i64 (t.sl i),.bool true] |none=> .tuple #[.int .i64 0,.bool false])∧IsH w' q t∧Fr q.blocks w w':=by
 have hs0:=g.s0;have hs1:=g.s1;have hF0:Fr q.blocks w ((w.alloc (.cells #[.pointer (some ⟨q.m,0,none⟩),.int .i64 t.s] 136)).alloc (.cells #[.int .u32 hs,.func (.func 153) #[] #[.pointer (some ⟨bA,0,none⟩),.pointer (some ⟨bB,0,none⟩),.pointer (some ⟨bC,0,none⟩),.pointer (some ⟨bD,0,none⟩)]] 203)):=((Fr.refl q.blocks w).alloc _).alloc _;have H0:=(h.alloc (.cells #[.pointer (some ⟨q.m,0,none⟩),.int .i64 t.s] 136)).alloc (.cells #[.int .u32 hs,.func (.func 153) #[] #[.pointer (some ⟨bA,0,none⟩),.pointer (some ⟨bB,0,none⟩),.pointer (some ⟨bC,0,none⟩),.pointer (some ⟨bD,0,none⟩)]] 203);have HF:=hid (zzk H0 g P hs bA bB bC bD hh (fun W hW hf y hy=>hIS W hW (hF0.trans hf) y hy));have F0:=hid hF0;have B0:=hid ((Blk.new w 136 #[.pointer (some ⟨q.m,0,none⟩),.int .i64 t.s]).alloc (.cells #[.int .u32 hs,.func (.func 153) #[] #[.pointer (some ⟨bA,0,none⟩),.pointer (some ⟨bB,0,none⟩),.pointer (some ⟨bC,0,none⟩),.pointer (some ⟨bD,0,none⟩)]] 203));have hlt:=h.m.lt;have nb:w.heap.size∉q.blocks:=fun hm=>by have:=hlt _ hm;omega
 have HGT:=hid (fun W (i:Nat) (hi:i<t.s) (hW:IsH W q t)=>(show Calls prog 141 #[.agg #[.pointer (some ⟨q.m,0,none⟩),.int .i64 t.s],.int .i64 i] W fun e w'=>e= .returned (.int .i64 (t.sl i))∧IsH w' q t∧Fr q.blocks W w' from by
  have:=iget hW.m i (by omega) hs0;rw[Nat.mod_eq_of_lt hi]at this;exact this.mono fun e w' ⟨he,k1,k2⟩=>⟨he,hW.step k1 k2,k2⟩))
 have hlt2:∀i,fndT t.sl (hmE t E) t.s (hs %t.s) P=some i→i<t.s:=fun i e=>zjc hs0 _ _ _ e;generalize fndT t.sl (hmE t E) t.s (hs %t.s) P=R at*;generalize t.sl=T at*;generalize t.s=s at*;clear h hF0 H0 hIS hlt g;rcases R with _|i
 ·rw[show optZ none= -1 from rfl]at HF
  clear hlt2;go_enter func152,ntmps152;go_wp2_with fail;with_reducible refine HF.out.mono ?_
  rintro e w1 ⟨rfl,k1,f1⟩;have K1:=hid k1;have F1:=hid (F0.out.trans f1);clear k1 f1;go_wp2_with fail;go_ret2;exact⟨rfl,K1.out,F1.out⟩
 ·have hi:=hlt2 i rfl
  rw[show optZ (some i)=i from rfl]at HF;have hi0':((i:Int)== -1)=false:=by rw[beq_eq_false_iff_ne];omega
  have HG:=hid (fun W hW=>HGT.out W i hi hW);dsimp only;generalize T i=v at*;clear hlt2;go_enter func152,ntmps152;go_wp2_with fail;with_reducible refine HF.out.mono ?_
  rintro e w1 ⟨rfl,k1,f1⟩;have K1:=hid k1;have F1:=hid (F0.out.trans f1);have hb:=B0.out.fr f1 nb;have d0:=hb.cell 0;have d1:=hb.cell 1;simp only[List.getElem?_toArray,List.getElem?_cons_zero,List.getElem?_cons_succ]at d0 d1;clear k1 f1 hb;go_wp2_with fail;with_reducible refine(HG.out _ K1.out).mono ?_
  rintro e w2 ⟨rfl,k2,f2⟩;have K2:=hid k2;have F2:=hid (F1.out.trans f2);clear k2 f2;go_wp2_with fail;go_ret2;exact⟨rfl,K2.out,F2.out⟩
theorem zys(h:IsH w q t)(g:IxI t L E)(name typ hs:Nat)(hn:name<4294967296)(ht:typ<65536)(hh:hs<4294967296):Calls prog 70 #[.pointer (some ⟨q.m,0,none⟩),.int .u32 name,.int .u16 typ,.int .u32 hs] w fun e w'=>e= .returned (match fndT t.sl (hmE t E) t.s (hs %t.s) (isEn E name typ hs)with|some i=> .tuple #[.int .i64 (t.sl i),.bool true] |none=> .tuple #[.int .i64 0,.bool false])∧IsH w' q t∧Fr q.blocks w w':=by
 obtain⟨A0,hA0⟩:∃A,A=w.alloc (.cells #[.pointer (some ⟨q.m,0,none⟩)] 26):=⟨_,rfl⟩;obtain⟨A1,hA1⟩:∃A,A=A0.alloc (.cells #[.int .u32 name] 87):=⟨_,rfl⟩;obtain⟨A2,hA2⟩:∃A,A=A1.alloc (.cells #[.int .u16 typ] 32):=⟨_,rfl⟩;obtain⟨A3,hA3⟩:∃A,A=A2.alloc (.cells #[.int .u32 hs] 87):=⟨_,rfl⟩;have z0:A0.heap.size=w.heap.size+1:=by rw[hA0];simp
 have z1:A1.heap.size=w.heap.size+1+1:=by rw[hA1];simp[z0]
 have z2:A2.heap.size=w.heap.size+1+1+1:=by rw[hA2];simp[z1]
 have kA:Blk A3 w.heap.size 26 #[.pointer (some ⟨q.m,0,none⟩)] :=by rw[hA3,hA2,hA1,hA0];exact(((Blk.new w _ _).alloc _).alloc _).alloc _
 have kB:Blk A3 (w.heap.size+1) 87 #[.int .u32 name] :=by rw[hA3,hA2,hA1,←z0];exact((Blk.new A0 _ _).alloc _).alloc _
 have kC:Blk A3 (w.heap.size+1+1) 32 #[.int .u16 typ] :=by rw[hA3,hA2,←z1];exact(Blk.new A1 _ _).alloc _
 have kD:Blk A3 (w.heap.size+1+1+1) 87 #[.int .u32 hs] :=by rw[hA3,←z2];exact Blk.new A2 _ _
 have fA:Fr q.blocks w A3:=by rw[hA3,hA2,hA1,hA0];exact((((Fr.refl _ w).alloc _).alloc _).alloc _).alloc _
 have hA:IsH A3 q t:=by rw[hA3,hA2,hA1,hA0];exact(((h.alloc _).alloc _).alloc _).alloc _
 have hlt:=h.m.lt;have nq:∀k,w.heap.size≤k→k∉q.blocks:=fun k hk hm=>by have:=hlt _ hm;omega
 have HOF:=hid (fun W (hW:IsH W q t)=>(show Calls prog 78 #[.pointer (some ⟨q.m,0,none⟩)] W fun e w'=>e= .returned (.agg #[.pointer (some ⟨q.m,0,none⟩),.int .i64 t.s])∧Fr [] W w' from iof hW.m))
 have HFO:=hid (fun W (hW:IsH W q t) (hf:Fr q.blocks A3 W)=>zvr hW g (isEn E name typ hs) hs w.heap.size (w.heap.size+1) (w.heap.size+1+1) (w.heap.size+1+1+1) hh (fun V hV hf2 y hy=>by
  have hF:=hf.trans hf2;have cA:=(kA.fr hF (nq _ (by omega))).cell 0;exact zwn hV (g.e y hy) name typ hs _ _ _ _ (by simpa using cA) (nq _ (by omega)) (nq _ (by omega)) (nq _ (by omega)) (kB.fr hF (nq _ (by omega))) (kC.fr hF (nq _ (by omega))) (kD.fr hF (nq _ (by omega)))))
 have DC:=hid (fun V (hV:Fr q.blocks A3 V)=>And.intro (show V.cell? ⟨w.heap.size,0,none⟩=some (.pointer (some ⟨q.m,0,none⟩))from(kA.fr hV (nq _ (by omega))).cell 0) (show V.cell? ⟨w.heap.size+1+1+1,0,none⟩=some (.int .u32 hs)from(kD.fr hV (nq _ (by omega))).cell 0));have H0:=hid hA.drew;have FA:=hid fA;have hY:=DC.out _ (Fr.refl _ A3).drew;have HA3:((((w.alloc (.cells #[.pointer (some ⟨q.m,0,none⟩)] 26)).alloc (.cells #[.int .u32 name] 87)).alloc (.cells #[.int .u16 typ] 32)).alloc (.cells #[.int .u32 hs] 87))=A3:=by rw[hA3,hA2,hA1,hA0]
 obtain⟨RV,hRV⟩:∃RV:Value×Value,(match fndT t.sl (hmE t E) t.s (hs %t.s) (isEn E name typ hs)with|some i=>Value.tuple #[.int .i64 (t.sl i),.bool true] |none=> .tuple #[.int .i64 0,.bool false])= .tuple #[RV.1,RV.2] :=by
  cases fndT t.sl (hmE t E) t.s (hs %t.s) (isEn E name typ hs)with
  |some i=>exact⟨(_,_),rfl⟩
  |none=>exact⟨(_,_),rfl⟩
 rw[hRV]at HFO⊢;obtain⟨r1,r2⟩:=RV;generalize t.s=s at*;clear h g hA0 hA1 hA2 hA3 z0 z1 z2 kA kB kC kD fA hA hlt hRV;go_enter func70,ntmps70;go_wp2_with fail;try rw[HA3]
 refine wp_region_held_drew (S:=fun W=>W.cell? ⟨w.heap.size,0,none⟩=some (.pointer (some ⟨q.m,0,none⟩))∧W.cell? ⟨w.heap.size+1+1+1,0,none⟩=some (.int .u32 hs)) (by kernel_rfl) (hY) (fun yH=> ?_);refine tkY 0 yH ?_;refine tkY 2 yH ?_;refine tkY 3 yH ?_;refine tkY 4 yH ?_;refine tkC 1 fun K hK=> ?_;go_simp;with_reducible refine(HOF.out _ H0.out).mono ?_
 rintro e w1 ⟨rfl,f1⟩;have K1:=hid (H0.out.fr0 f1);have F1:=hid ((Fr.refl q.blocks A3).drew.trans f1.nil);have hY:=DC.out _ F1.out;clear f1;go_wp2_with fail;refine hK.out _ _ _ hY fun yH=> ?_;clear hK K;refine tkC 5 fun K hK=> ?_;go_simp;with_reducible refine(HFO.out _ K1.out F1.out).mono ?_
 rintro e w2 ⟨rfl,k2,f2⟩;have K2:=hid k2;have F2:=hid (F1.out.trans f2);have hY:=DC.out _ F2.out;clear k2 f2;go_wp2_with fail;refine hK.out _ _ _ hY fun yH=> ?_;clear hK K;refine tkY 6 yH ?_;refine tkY 7 yH ?_;refine tkY 8 yH ?_;refine tkY 9 yH ?_;refine wpAnyH_done (by kernel_rfl) ?_ _;try simp only[Act.put,List.getElem_toArray,List.getElem_cons_zero,List.getElem_cons_succ,List.setIfInBounds_toArray,List.set_cons_zero,List.set_cons_succ]
 go_wp2_with fail;go_ret2;exact⟨rfl,K2.out,FA.out.trans F2.out⟩
end
structure RZ(n:Nat)(T H:Nat→Nat):Prop where
 r:RH n T H
 z: ∃s,s<n∧(T s=0∨dst n (H (T s)) s=0)
 nd: ∀s s',s<n→s'<n→T s≠0→T s=T s'→s=s'
def InT(n:Nat)(T:Nat→Nat)(y:Nat):Prop:= ∃s,s<n∧T s=y
section
variable {n : Nat} {T H : Nat → Nat} {h k g x s : Nat}
theorem RZ.congr{H':Nat→Nat}(R:RZ n T H)(hm:∀y,H' y<n)(he:∀s,s<n→T s≠0→H' (T s)=H (T s)):RZ n T H':=by
 refine⟨⟨R.r.n0,hm,fun s hs h0 hd=> ?_⟩,?_,R.nd⟩
 ·rw[he _ (Nat.mod_lt _ R.r.n0) h0]at hd⊢
  obtain⟨r1,r2⟩:=R.r.rh s hs h0 hd;exact⟨r1,by rw[he s hs r1];exact r2⟩
 ·obtain⟨s,hs,hz⟩:=R.z
  refine⟨s,hs,?_⟩;by_cases h0:T s=0
  ·exact .inl h0
  ·rw[he s hs h0];exact hz
theorem zlf(hh:h<n)(hs:s<n)(hd:0<dst n h ((s+1) %n)):dst n h s+1=dst n h ((s+1) %n):=by
 rw[zet hs]at hd⊢;unfold dst at hd⊢;split at hd<;>split at hd<;>split<;>(try split)<;>omega
theorem RH.way(r:RH n T H){d:Nat}(hd:d<n)(h0:T ((h+d) %n)≠0)(he:d≤dst n (H (T ((h+d) %n))) ((h+d) %n)):∀m j,j+m=d→T ((h+j) %n)≠0∧j≤dst n (H (T ((h+j) %n))) ((h+j) %n)
 |0,j,e=>by
  obtain rfl:j=d:=by omega
  exact⟨h0,he⟩
 |m+1,j,e=>by
  obtain⟨h1,h2⟩:=RH.way r hd h0 he m (j+1) (by omega);have:=r.rh ((h+j) %n) (Nat.mod_lt _ r.n0);rw[zaw]at this;obtain⟨r1,r2⟩:=this h1 (by omega);exact⟨r1,by omega⟩
theorem zf9(P:Nat→Bool){d:Nat}(hd:d<n)(no:∀j,j≤d→endB T H n (h+j) j=false)(hy:P (T ((h+d) %n))=true):∀f j,j+f=n→j≤d→∃k,j≤k∧k≤d∧fndS T H n h P f j=some ((h+k) %n)∧P (T ((h+k) %n))=true∧∀i,j≤i→i<k→P (T ((h+i) %n))=false
 |0,j,e,hj=>by omega
 |f+1,j,e,hj=>by
  unfold fndS;rw[if_neg (by rw[no j hj];decide)];by_cases c:P (T ((h+j) %n))=true
  ·exact⟨j,Nat.le_refl _,hj,by rw[if_pos c],c,fun i h1 h2=>by omega⟩
  ·have hne:j≠d:=fun e=>c (e▸hy)
   rw[if_neg c];obtain⟨k,k1,k2,k3,k4,k5⟩:=zf9 P hd no hy f (j+1) (by omega) (by omega)
   exact⟨k,by omega,k2,k3,k4,fun i h1 h2=>by
    by_cases ei:i=j
    ·rw[ei];simpa using c
    ·exact k5 i (by omega) h2⟩
theorem RH.finds(r:RH n T H)(P:Nat→Bool)(hs:s<n)(h0:T s≠0)(hP:P (T s)=true):∃i,i<n∧fndT T H n (H (T s)) P=some i∧P (T i)=true:=by
 obtain⟨d,hd,e⟩:=zb6 (n:=n) (H (T s)) hs;have h1:T ((H (T s)+d) %n)≠0:=by rw[e];exact h0
 have h2:d≤dst n (H (T ((H (T s)+d) %n))) ((H (T s)+d) %n):=by
  have:=zen (r.hm (T s)) hd;rw[e]at this⊢;omega
 obtain⟨k,k1,k2,k3,k4,k5⟩:=zf9 (T:=T) (H:=H) (h:=H (T s)) P hd (fun j hj=>by
  obtain⟨w1,w2⟩:=r.way hd h1 h2 (d-j) j (by omega);unfold endB;rw[if_neg w1,zhe];exact decide_eq_false (by omega)) (by rw[e];exact hP) n 0 (by omega) (Nat.zero_le _)
 exact⟨_,Nat.mod_lt _ r.n0,k3,k4⟩
theorem zdx(P:Nat→Bool)(h0:0<n):∀f j i,fndS T H n h P f j=some i→i<n∧P (T i)=true∧T i≠0
 |0,j,i,e=>nomatch e
 |f+1,j,i,e=>by
  unfold fndS at e;by_cases c:endB T H n (h+j) j=true
  ·rw[if_pos c]at e;exact nomatch e
  ·rw[if_neg c]at e
   by_cases c2:P (T ((h+j) %n))=true
   ·rw[if_pos c2]at e
    injection e with e;subst e;refine⟨Nat.mod_lt _ h0,c2,fun hz=>c ?_⟩;unfold endB;rw[if_pos hz]
   ·rw[if_neg c2]at e
    exact zdx P h0 f (j+1) i e
theorem RZ.found(R:RZ n T H)(hx:x≠0):(∀i,fndT T H n (H x) (fun z=>z==x)=some i→i<n∧T i=x)∧(fndT T H n (H x) (fun z=>z==x)=none→∀s,s<n→T s≠x):=by
 refine⟨fun i e=> ?_,fun e s hs es=> ?_⟩
 ·obtain⟨h1,h2,_⟩:=zdx _ R.r.n0 n 0 i e
  exact⟨h1,by simpa using h2⟩
 ·obtain⟨i,_,h2,_⟩:=R.r.finds (fun z=>z==x) hs (by rw[es];exact hx) (by rw[es];simp)
  rw[es,e]at h2;exact nomatch h2
theorem InsQ.inT(Q:InsQ n T H h k g x){y:Nat}(hy:y≠0):InT n (insX T n (h+k) g x) y↔y=x∨InT n T y:=by
 have hn:=Q.r.n0;constructor
 ·rintro⟨s,hs,e⟩
  have:=zfr (P:=fun z=>z=x∨InT n T z) Q (fun s hs=> .inr (.inr ⟨s,hs,rfl⟩)) (.inl rfl) s hs;rw[e]at this;exact this.resolve_left hy
 ·rintro(rfl|⟨s,hs,e⟩)
  ·exact⟨_,Nat.mod_lt _ hn,Q.at0⟩
  ·obtain⟨j,hj,rfl⟩:=zb6 (n:=n) (h+k) hs
   by_cases c:j<g
   ·exact⟨_,Nat.mod_lt _ hn,(Q.at1 c).trans e⟩
   ·by_cases c2:j=g
    ·subst c2
     rw[Q.gap0]at e;exact absurd e.symm hy
    ·refine⟨_,hs,(Q.at2 (fun i hi e'=> ?_)).trans e⟩
     have hg:=Q.gn;have:=zaz (n:=n) (a:=h+k) hj (by omega) e';omega
def srcI(g j:Nat):Nat:=if j=0 then g else if j≤g then j-1 else j
theorem InsQ.src(Q:InsQ n T H h k g x){j:Nat}(hj:j<n)(h0:j≠0):insX T n (h+k) g x ((h+k+j) %n)=T ((h+k+srcI g j) %n)∧srcI g j<n:=by
 have hg:=Q.gn;unfold srcI;rw[if_neg h0];by_cases c:j≤g
 ·rw[if_pos c]
  obtain⟨i,rfl⟩:∃i,j=i+1:=⟨j-1,by omega⟩;exact⟨Q.at1 (by omega),by omega⟩
 ·rw[if_neg c]
  refine⟨Q.at2 (fun i hi e'=> ?_),hj⟩;have:=zaz (n:=n) (a:=h+k) hj (by omega) e';omega
theorem InsQ.rz(Q:InsQ n T H h k g x)(R:RZ n T H):RZ n (insX T n (h+k) g x) H:=by
 have hg:=Q.gn;have hk:=Q.kn;have hn:=Q.r.n0;refine⟨Q.rh,?_,fun s s' hs hs' h0 e=> ?_⟩
 ·by_cases c:g+1<n
  ·have e1:insX T n (h+k) g x ((h+k+(g+1)) %n)=T ((h+k+(g+1)) %n):=Q.at2 (fun i hi e'=>by
    have:=zaz (n:=n) (a:=h+k) c (by omega) e';omega)
   refine⟨_,Nat.mod_lt (h+k+(g+1)) hn,?_⟩;rw[e1];by_cases hz:T ((h+k+(g+1)) %n)=0
   ·exact .inl hz
   ·have:=Q.r.gapFar (h+k+g) Q.gap0 0 (by omega) (by rw[Nat.add_assoc (h+k)];exact hz)
    rw[Nat.add_assoc (h+k),Nat.zero_add]at this;exact .inr (by omega)
  ·have k0:k=0:=by
    rcases Nat.eq_zero_or_pos k with e|hp
    ·exact e
    ·have:=(Q.pre (j:=k-1) (by omega)).1
     have e2:(h+(k-1)) %n=(h+k+g) %n:=by
      rw[show h+k+g=h+(k-1)+n by omega,Nat.add_mod_right]
     rw[e2]at this;exact absurd Q.gap0 this
   refine⟨_,Nat.mod_lt (h+k) hn,.inr ?_⟩;rw[Q.at0,Q.hx,zen Q.hn hk];exact k0
 ·obtain⟨j,hj,rfl⟩:=zb6 (n:=n) (h+k) hs
  obtain⟨j',hj',rfl⟩:=zb6 (n:=n) (h+k) hs';by_cases c:j=0
  ·subst c
   by_cases c':j'=0
   ·rw[c']
   ·rw[(Q.src hj' c').1]at e
    have e0:insX T n (h+k) g x ((h+k+0) %n)=x:=Q.at0;rw[e0]at e;exact absurd e.symm (Q.nx _ (Nat.mod_lt _ hn))
  ·by_cases c':j'=0
   ·subst c'
    rw[(Q.src hj c).1]at e;have e0:insX T n (h+k) g x ((h+k+0) %n)=x:=Q.at0;rw[e0]at e;exact absurd e (Q.nx _ (Nat.mod_lt _ hn))
   ·rw[(Q.src hj c).1]at e h0
    rw[(Q.src hj' c').1]at e;have e2:=R.nd _ _ (Nat.mod_lt _ hn) (Nat.mod_lt _ hn) h0 e;have e3:=zaz (n:=n) (a:=h+k) (Q.src hj c).2 (Q.src hj' c').2 e2;unfold srcI at e3;rw[if_neg c,if_neg c']at e3;have:j=j':=by split at e3<;>split at e3<;>omega
    rw[this]
structure DlP(n:Nat)(T H:Nat→Nat)(i f:Nat)(D:Nat→Nat)(m:Nat):Prop where
 mf:m≤f
 far: ∀j,1≤j→j≤m→T ((i+j) %n)≠0∧dst n (H (T ((i+j) %n))) ((i+j) %n)≠0
 stop:m=f∨T ((i+(m+1)) %n)=0∨dst n (H (T ((i+(m+1)) %n))) ((i+(m+1)) %n)=0
 sh: ∀j,j<m→D ((i+j) %n)=T ((i+(j+1)) %n)
 last:D ((i+m) %n)=0
 out: ∀s,(∀j,j≤m→s≠(i+j) %n)→D s=T s
theorem zks(n:Nat)(H:Nat→Nat):∀(f i:Nat) (T:Nat→Nat),f<n→∃m,DlP n T H i f (dlS H n f i T) m
 |0,i,T,hf=>⟨0,⟨Nat.le_refl _,fun j h1 h2=>by omega,.inl rfl,fun j hj=>by omega,zaa _ _ _,fun s hs=>zac _ _ (hs 0 (Nat.le_refl _))⟩⟩
 |f+1,i,T,hf=>by
  unfold dlS;by_cases c:T ((i+1) %n)=0∨farT T H n (i+1)=0
  ·rw[if_pos c]
   exact⟨0,⟨Nat.zero_le _,fun j h1 h2=>by omega,.inr c,fun j hj=>by omega,zaa _ _ _,fun s hs=>zac _ _ (hs 0 (Nat.le_refl _))⟩⟩
  ·rw[if_neg c]
   obtain⟨m,P⟩:=zks n H f (i+1) (up T (i %n) (T ((i+1) %n))) (by omega)
   have hne:∀j,1≤j→j≤f+1→(i+j) %n≠i %n:=fun j h1 h2 e=>by
    have:=zaz (n:=n) (a:=i) (i:=j) (j:=0) (by omega) (by omega) e;omega
   have hT:∀j,j≤f→up T (i %n) (T ((i+1) %n)) ((i+1+j) %n)=T ((i+(1+j)) %n):=fun j hj=>by
    rw[zac _ _ (by rw[Nat.add_assoc];exact hne (1+j) (by omega) (by omega)),Nat.add_assoc]
   have hmf:=P.mf;refine⟨m+1,⟨by omega,fun j h1 h2=> ?_,?_,fun j hj=> ?_,?_,fun s hs=> ?_⟩⟩
   ·by_cases e:j=1
    ·subst e
     exact⟨fun e=>c (.inl e),fun e=>c (.inr e)⟩
    ·obtain⟨j',rfl⟩:∃j',j=1+j':=⟨j-1,by omega⟩
     have:=P.far j' (by omega) (by omega);rw[hT j' (by omega),Nat.add_assoc]at this;exact this
   ·rcases P.stop with e|e
    ·exact .inl (by omega)
    ·by_cases hm:m=f
     ·exact .inl (by omega)
     ·rw[hT (m+1) (by omega),Nat.add_assoc,show 1+(m+1)=m+1+1 by omega]at e
      exact .inr e
   ·by_cases e:j=0
    ·subst e
     rw[P.out _ (fun j' hj' e=>hne (1+j') (by omega) (by omega) (by rw[←Nat.add_assoc];exact e.symm))];show up _ _ _ (i %n)=_;rw[zaa]
    ·obtain⟨j',rfl⟩:∃j',j=1+j':=⟨j-1,by omega⟩
     rw[←Nat.add_assoc,P.sh j' (by omega),hT (j'+1) (by omega)];rfl
   ·rw[show i+(m+1)=i+1+m by omega]
    exact P.last
   ·rw[P.out s (fun j hj e=>hs (1+j) (by omega) (by rw[←Nat.add_assoc];exact e)),zac]
    exact hs 0 (by omega)
def srcD(m j:Nat):Nat:=if j<m then j+1 else j
theorem DlP.src{D:Nat→Nat}{i m:Nat}(P:DlP n T H i (n-1) D m){j:Nat}(hj:j<n)(hm:j≠m):D ((i+j) %n)=T ((i+srcD m j) %n)∧srcD m j<n∧srcD m j≠0:=by
 have hmf:=P.mf;unfold srcD;by_cases c:j<m
 ·rw[if_pos c];exact⟨P.sh j c,by omega,by omega⟩
 ·rw[if_neg c]
  refine⟨P.out _ (fun j' hj' e=> ?_),hj,by omega⟩;have:=zaz (n:=n) (a:=i) hj (by omega) e;omega
theorem DlP.inT{D:Nat→Nat}{i m:Nat}(P:DlP n T H i (n-1) D m)(R:RZ n T H){y:Nat}(hy:y≠0):InT n D y↔InT n T y∧y≠T (i %n):=by
 have hn:=R.r.n0;have hmf:=P.mf;constructor
 ·rintro⟨s,hs,e⟩
  obtain⟨j,hj,rfl⟩:=zb6 (n:=n) i hs;by_cases c:j=m
  ·subst c
   rw[P.last]at e;exact absurd e.symm hy
  ·obtain⟨s1,s2,s3⟩:=P.src hj c
   rw[s1]at e;refine⟨⟨_,Nat.mod_lt _ hn,e⟩,fun e2=>s3 ?_⟩;have:=R.nd _ (i %n) (Nat.mod_lt (i+srcD m j) hn) (Nat.mod_lt _ hn) (by rw[e];exact hy) (by rw[e];exact e2);exact zaz (n:=n) (a:=i) (i:=srcD m j) (j:=0) s2 hn this
 ·rintro⟨⟨s,hs,e⟩,hne⟩
  obtain⟨j,hj,rfl⟩:=zb6 (n:=n) i hs;have hj0:j≠0:=fun e0=>hne (by rw[←e,e0];rfl);by_cases c:j≤m
  ·obtain⟨j',rfl⟩:∃j',j=j'+1:=⟨j-1,by omega⟩
   exact⟨_,Nat.mod_lt (i+j') hn,(P.sh j' (by omega)).trans e⟩
  ·refine⟨_,hs,(P.out _ (fun j' hj' e'=> ?_)).trans e⟩
   have:=zaz (n:=n) (a:=i) hj (by omega) e';omega
theorem DlP.rz{D:Nat→Nat}{i m:Nat}(P:DlP n T H i (n-1) D m)(R:RZ n T H)(h0:T (i %n)≠0):RZ n D H:=by
 have hn:=R.r.n0;have hmf:=P.mf;refine⟨⟨hn,R.r.hm,fun s hs hd0 hdp=> ?_⟩,⟨_,Nat.mod_lt (i+m) hn,.inl P.last⟩,fun s s' hs hs' hd0 e=> ?_⟩
 ·obtain⟨j',hj',e⟩:=zb6 (n:=n) i (Nat.mod_lt (s+1) hn)
  have hsj:s=(i+(j'+n-1)) %n:=by
   have h1:((i+(j'+n-1)) %n+1) %n=(s+1) %n:=by
    rw[zaw,show i+(j'+n-1+1)=i+j'+n by omega,Nat.add_mod_right,e]
   have h2:=Nat.mod_lt (i+(j'+n-1)) hn;rw[zet h2,zet hs]at h1;split at h1<;>split at h1<;>omega
  rw[←e]at hd0 hdp⊢;have hjm:j'≠m:=fun e2=>hd0 (by rw[e2];exact P.last);obtain⟨s1,s2,s3⟩:=P.src hj' hjm;rw[s1]at hd0 hdp⊢;by_cases c:j'<m
  ·
   have es:srcD m j'=j'+1:=if_pos c;rw[es]at hd0 hdp⊢;have hfar:=P.far (j'+1) (by omega) (by omega);have hpr:=zlf (n:=n) (h:=H (T ((i+(j'+1)) %n))) (s:=(i+j') %n) (R.r.hm _) (Nat.mod_lt _ hn) (by rw[zaw];omega);rw[zaw]at hpr;have hrr:=R.r.rh ((i+j') %n) (Nat.mod_lt _ hn);rw[zaw]at hrr;obtain⟨r1,r2⟩:=hrr hfar.1 (by omega);by_cases cj:j'=0
   ·subst cj
    have hs2:s=(i+(n-1)) %n:=by rw[hsj,Nat.zero_add]
    have hi0:(i+0) %n=i %n:=rfl;rw[hi0]at r1 r2 hpr hdp⊢
    have hm1:m≠n-1:=fun em=>by
     obtain⟨z,hz,hz'⟩:=R.z;obtain⟨jz,hjz,rfl⟩:=zb6 (n:=n) i hz;by_cases c0:jz=0
     ·subst c0
      rw[hi0]at hz';omega
     ·have:=P.far jz (by omega) (by omega)
      omega
    have hD:D s=T s:=P.out s (fun j hj e2=>by
     rw[hs2]at e2;have:=zaz (n:=n) (a:=i) (i:=n-1) (j:=j) (by omega) (by omega) e2;omega)
    have hrr:=R.r.rh s hs
    have es1:(s+1) %n=i %n:=by
     rw[hs2,zaw,show i+(n-1+1)=i+n by omega,Nat.add_mod_right]
    rw[es1]at hrr;obtain⟨q1,q2⟩:=hrr h0 (by omega);rw[hD];exact⟨q1,by omega⟩
   ·obtain⟨j,rfl⟩:∃j,j'=j+1:=⟨j'-1,by omega⟩
    have hs2:s=(i+j) %n:=by rw[hsj,show i+(j+1+n-1)=i+j+n by omega,Nat.add_mod_right]
    rw[hs2,P.sh j (by omega)];have hfar2:=P.far (j+1) (by omega) (by omega);have hpr2:=zlf (n:=n) (h:=H (T ((i+(j+1)) %n))) (s:=(i+j) %n) (R.r.hm _) (Nat.mod_lt _ hn) (by rw[zaw];omega);rw[zaw]at hpr2;exact⟨r1,by omega⟩
  ·
   have es:srcD m j'=j':=if_neg c;rw[es]at hd0 hdp⊢;obtain⟨j,rfl⟩:∃j,j'=j+1:=⟨j'-1,by omega⟩;have hs2:s=(i+j) %n:=by rw[hsj,show i+(j+1+n-1)=i+j+n by omega,Nat.add_mod_right]
   have hjm2:j≠m:=fun e2=>by
    subst e2;rcases P.stop with h1|h1|h1
    ·omega
    ·exact hd0 h1
    ·omega
   have hrr:=R.r.rh ((i+j) %n) (Nat.mod_lt _ hn);rw[zaw]at hrr;obtain⟨r1,r2⟩:=hrr hd0 hdp;have:=P.src (j:=j) (by omega) hjm2;have es2:srcD m j=j:=if_neg (by omega);rw[es2]at this;rw[hs2,this.1];exact⟨r1,r2⟩
 ·obtain⟨j,hj,rfl⟩:=zb6 (n:=n) i hs
  obtain⟨j',hj',rfl⟩:=zb6 (n:=n) i hs';have c1:j≠m:=fun e2=>hd0 (by rw[e2];exact P.last);have c2:j'≠m:=fun e2=>hd0 (by rw[e,e2];exact P.last);obtain⟨s1,s2,s3⟩:=P.src hj c1;obtain⟨t1,t2,t3⟩:=P.src hj' c2;rw[s1]at hd0 e;rw[t1]at e;have e2:=zaz (n:=n) (a:=i) s2 t2 (R.nd _ _ (Nat.mod_lt _ hn) (Nat.mod_lt _ hn) hd0 e);unfold srcD at e2;have:j=j':=by split at e2<;>split at e2<;>omega
  rw[this]
end
section
variable {W : World} {q : MH} {t u : TM} {S : SS} {x n : Nat}
theorem zpc(hok:t.Ok){T:Nat→Nat}(ho:(t.wsl T).Ok)(x n:Nat):Out t (t.wsl T) x n:=
 ⟨fun i hi _=>by rw[zam (t.wsl T) i hi ho,zam t i hi hok];rfl,fun g _ _=>rfl⟩
theorem SlI.wsl(hs:SlI t S)(hok:t.Ok){T:Nat→Nat}(ho:(t.wsl T).Ok):SlI (t.wsl T) S:=
 ⟨hs.ls.same' rfl (fun _ _=>rfl) (fun _ _ _=>rfl),fun j hj=>(hs.each j hj).other hok hj rfl rfl (fun _ _=>rfl) (zpc hok ho (sla t j+1024) 0) (.inl (Nat.le_refl _))⟩
theorem zyk(hok:t.Ok)(i:Nat)(hi:i<4*t.s):mayL t.ms.ks ((slAt t 0+i:Nat):Int) 1 (4:Nat)=true:=by
 have hc:=zak hok.cfg;have hks:t.ms.ks=t.kinds:=rfl;have hlen:=t.kinds_len;unfold slAt;rw[hks];refine zh3 t.kinds (zaf t.a+4*0+i) 1 4 (.inl rfl) (Nat.mod_one _) (by decide) (by rw[hlen];omega) (fun g g1 g2=> ?_);rw[t.kinds_get g (by omega)];unfold zan;rw[if_neg (by omega),if_neg (by omega),if_neg (by omega),if_pos (by omega)]
theorem z0i(h:IsH W q u)(h0:u.sl=fun _=>0):Calls prog 79 #[.pointer (some ⟨q.m,0,none⟩),.int .i64 (slAt u 0),.int .i64 (4*u.s:Nat),.int .i64 4] W fun e w'=>e= .returned (.bool true)∧IsH w' q u∧Fr q.blocks W w':=by
 have hok:=h.m.ok;have hc:=zak hok.cfg
 have hE:slAt u 0+4*u.s≤u.ms.l.length:=by
  show _≤u.bytes.length;rw[u.bytes_len];unfold slAt;omega
 have e1:spl u.bytes (slAt u 0) (List.replicate (4*u.s) 0)=u.bytes:=by
  refine ze0 (t:=u) (u:=u) (slAt u 0) (List.replicate (4*u.s) 0) (by rw[List.length_replicate,←u.bytes_len];exact hE) rfl rfl (fun i=> ?_);rw[List.length_replicate];split
  ·next hi=>
   have:(List.replicate (4*u.s) 0)[i-slAt u 0]?.getD 0=0:=by
    rw[List.getElem?_replicate];split<;>rfl
   rw[this];unfold slAt at hi;unfold zah;rw[if_neg (by omega),if_neg (by omega),if_pos (by omega),h0];exact nb_0 _
  ·rfl
 refine(ze9 W q u.ms h.m.m (slAt u 0) (4*u.s) 4 hE (fun i hi=>zyk hok i hi)).mono fun e w' ⟨he,hm,hf⟩=> ?_
 have hm':IsM w' q u.ms:=by
  have:({u.ms with l:=spl u.ms.l (slAt u 0) (List.replicate (4*u.s) 0)}:MS)=u.ms:=by
   show({u.ms with l:=spl u.bytes (slAt u 0) (List.replicate (4*u.s) 0)}:MS)=u.ms;rw[e1];rfl
  rw[this]at hm;exact hm
 have hf':Fr q.blocks W w':=hf.mono (fun k hk=> .inl (by simp at hk;rcases hk with rfl|rfl<;>simp[MH.blocks]));exact⟨he,h.step ⟨hok,hm',h.m.tab.fr hf' h.m.hi,h.m.hi⟩ hf',hf'⟩
theorem zya(h:IsH W q u)(h0:u.sl=fun _=>0):Calls prog 30 #[.pointer (some ⟨q.m,0,none⟩)] W fun e w'=>e= .returned (.int .i64 0)∧IsH w' q u∧Fr q.blocks W w':=by
 have hc:=h.m.ok.cfg;have hs0:0<u.s:=by obtain⟨c1,c2,c3,c4,c5⟩:=hc;omega
 have hsm:u.s≤1048576:=by obtain⟨c1,c2,c3,c4,c5⟩:=hc;omega
 have HOF:=hid (show Calls prog 78 #[.pointer (some ⟨q.m,0,none⟩)] W fun e w'=>e= .returned (.agg #[.pointer (some ⟨q.m,0,none⟩),.int .i64 u.s])∧Fr [] W w' from iof h.m);have HC:=hid (fun V (hV:IsH V q u)=>tcfg hV.m);have HSL:=hid (fun V (hV:IsH V q u)=>(show Calls prog 80 #[.agg #[.int .i64 u.a,.int .i64 u.s],.int .i64 0] V fun e w'=>e= .returned (.int .i64 (slAt u 0))∧Fr [] V w' from ziq V hV.m.tab u.a u.s hc 0 hs0));have HZ:=hid (fun V (hV:IsH V q u)=>z0i hV h0);have b0:((u.s:Int)==0)=false:=by rw[beq_eq_false_iff_ne];omega
 have b0':(u.s==0)=false:=by rw[beq_eq_false_iff_ne];omega
 have w1:IntKind.i64.wrap ((u.s:Int)*4)=(4*u.s:Nat):=by rw[i64_in _ (by omega)];omega
 have H00:=hid h;generalize slAt u 0=z at*;generalize 4*u.s=s4 at*;generalize u.s=s at*;generalize u.a=a at*;clear h h0 hc hs0;go_enter func30,ntmps30;go_wp2_with fail;with_reducible refine HOF.out.mono ?_
 rintro e w1 ⟨rfl,f1⟩;have K0:=hid (((H00.out.fr0 f1).alloc (.cells #[.pointer (some ⟨q.m,0,none⟩),.int .i64 s] 136)).fr0 (Fr.refl [] _).drew);have F0:=hid ((f1.alloc (.cells #[.pointer (some ⟨q.m,0,none⟩),.int .i64 s] 136)).drew.nil (S:=q.blocks));have hlt:=H00.out.m.lt;have hsz:=f1.size;have nb:w1.heap.size∉q.blocks:=fun hm=>by have:=hlt _ hm;omega
 have B0:=hid ((Blk.new w1 136 #[.pointer (some ⟨q.m,0,none⟩),.int .i64 s]).drew);have DC:=hid (fun V (hV:Fr q.blocks (w1.alloc (.cells #[.pointer (some ⟨q.m,0,none⟩),.int .i64 s] 136)).drew V)=>(show V.cell? ⟨w1.heap.size,1,none⟩=some (.int .i64 s)from(B0.out.fr hV nb).cell 1));have hY:=DC.out _ (Fr.refl _ _);clear f1 hlt hsz;go_wp2_with fail;refine wp_region_held_drew (S:=fun V=>V.cell? ⟨w1.heap.size,1,none⟩=some (.int .i64 s)) (by kernel_rfl) (hY) (fun yH=> ?_);refine tkY 0 yH ?_;refine tkY 1 yH ?_;refine tkY 4 yH ?_;refine tkY 5 yH ?_;refine tkY 6 yH ?_;refine tkC 2 fun K hK=> ?_;go_simp;with_reducible refine(HC.out _ K0.out).mono ?_
 rintro e w2 ⟨rfl,f2⟩;have K2:=hid (K0.out.fr0 f2);have F2:=hid (f2.nil (S:=q.blocks));have hY:=DC.out _ F2.out;clear f2;go_wp2_with fail;refine hK.out _ _ _ hY fun yH=> ?_;clear hK K;refine tkC 3 fun K hK=> ?_;go_simp;with_reducible refine(HSL.out _ K2.out).mono ?_
 rintro e w3 ⟨rfl,f3⟩;have K3:=hid (K2.out.fr0 f3);have F3:=hid (F2.out.trans f3.nil);have hY:=DC.out _ F3.out;clear f3;go_wp2_with fail;refine hK.out _ _ _ hY fun yH=> ?_;clear hK K;refine tkC 7 fun K hK=> ?_;go_simp;with_reducible refine(HZ.out _ K3.out).mono ?_
 rintro e w4 ⟨rfl,h4,f4⟩;have K4:=hid h4;have F4:=hid (F3.out.trans f4);have hY:=DC.out _ F4.out;clear h4 f4;go_wp2_with fail;refine hK.out _ _ _ hY fun yH=> ?_;clear hK K;refine wpAnyH_done (by kernel_rfl) ?_ _;try simp only[Act.put,List.getElem_toArray,List.getElem_cons_zero,List.getElem_cons_succ,List.setIfInBounds_toArray,List.set_cons_zero,List.set_cons_succ]
 go_wp2_with fail;go_ret;exact⟨rfl,K4.out,F0.out.trans F4.out⟩
theorem zme{a s:Nat}(h:IsH W q (newT a s))(hc:Cfg a s):Calls prog 29 #[.pointer (some ⟨q.m,0,none⟩)] W fun e w'=>e= .returned (.int .i64 0)∧Fr q.blocks W w'∧∃u,IsH w' q u∧SlI u SS.zero∧u.a=a∧u.s=s∧u.ft=0∧u.sl=fun _=>0:=by
 have hb:=zvd h.m
 have HM:=hid (fun w' (hm:IsT w' q ((newT a s).beg (newT a s).a)) (hf':Fr q.blocks W w')=>(show∃u,IsH w' q u∧SlI u SS.zero∧u.a=a∧u.s=s∧u.ft=0∧u.sl=fun _=>0 from by
  obtain⟨h1,h2⟩:=z0u a s hc _ hm.ok rfl;exact⟨_,h.step hm hf',h1,zmk _ _,h2.s,h2.ft,h2.sl⟩))
 clear h;go_enter func29,ntmps29;go_wp2_with fail;with_reducible refine hb.mono ?_
 rintro e w1 ⟨rfl,h1,f1⟩;have H1:=hid (HM.out _ h1 f1);have F1:=hid f1;clear h1 f1 HM;go_wp2_with fail;go_ret;exact⟨rfl,F1.out,H1.out⟩
end
section
variable {x tag : Nat} {t u : TM} {X : HB}
theorem zhl(hok:t.Ok)(hx:zab t.a t.s≤x)(htg:tag≤2)(N:Nat→Nat):∀k,k≤12→Out t (t.putH x tag N k) x (sz tag)
 |0,_=>Out.refl _ _ _
 |k+1,hk=>by
  have ih:=zhl hok hx htg N k (by omega);have as_:=zfn t x tag N k;unfold TM.putH;by_cases h0:(wh tag k).2=0
  ·rw[if_pos h0];exact ih
  ·rw[if_neg h0]
   have w:=zgt tag k htg (by omega) h0;have:=zay (zfz hok x tag N k) (x+(wh tag k).1) (wh tag k).2 (N k) (by rw[as_.1,as_.2];omega);exact ih.trans (this.wide (by omega) (by omega)) as_.1 as_.2
theorem zea(t:TM)(x tag:Nat)(N:Nat→Nat):∀k,(t.putH x tag N k).rt=t.rt∧(t.putH x tag N k).hd=t.hd∧(t.putH x tag N k).kd=t.kd∧(t.putH x tag N k).ft=t.ft∧(t.putH x tag N k).sl=t.sl
 |0=>⟨rfl,rfl,rfl,rfl,rfl⟩
 |k+1=>by
  unfold TM.putH;split
  ·exact zea t x tag N k
  ·exact zea t x tag N k
theorem BlkE.keep(h:BlkE t x X)(ha:u.a=t.a)(hs:u.s=t.s)(hk:KdOn u x 32 5)(hx4:x %4=0)(hb:∀k,k<sz X.tag.toNat→zah u (x+k)=zah t (x+k)):BlkE u x X:=by
 have hz:=zec X.tag.toNat h.h.tg;refine⟨⟨h.h.tg,by rw[ha,hs];exact h.h.base,h.h.al,by rw[ha,hs];exact h.h.fit,h.h.k0,fun g g1 g2=>hk g g1 (by omega),fun f hf h0 j hj=> ?_,h.h.lt⟩,h.ok,h.r,h.tg⟩;have w:=zgt X.tag.toNat f h.h.tg hf h0;rw[Nat.add_assoc,hb _ (by omega),←Nat.add_assoc];exact h.h.byte f hf h0 j hj
end
end Go.Proofs.YtolhkhdbgnciiaaGreatDoor
